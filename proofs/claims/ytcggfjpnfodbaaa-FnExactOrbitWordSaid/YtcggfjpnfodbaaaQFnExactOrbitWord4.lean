/- Lemmas for the row FnExactOrbitWord: the program's functions told as plain functions, and plain mathematics. No conditions. -/
import Derived.Test.YtcggfjpnfodbaaaQFnExactOrbitWord3
section
namespace Go.Proofs.Ytcggfjpnfodbaaa.A
open Go.RowKit Go.Proofs.YtcggfjpnfodbaaaW.PrintWords Go.Proofs.YtcggfjpnfodbaaaW.PrintLast Go.Proofs.YtcggfjpnfodbaaaW.PrintMore
attribute [local go_sem] max2_int min2_int max_two min_two max_three min_three max_four min_four
set_option linter.unusedVariables false
set_option linter.unusedSimpArgs false
mutual
def spec_l06Orbit.l0 : Nat → List (S25) → List ByteArray → Int → Option ((List (S25)) × List ByteArray × Bool)
  | 0, _, _, _ => none
  | k + 1, x5, x6, x7 => if x7 < (x5.length : Int) then ((some (([84, 83] : List Int) : List Int)).bind fun y863 => (spec_l06Orbit.l1 k x5 x6 x7 y863 (y863.length : Int) 0)) else (some (x5, x6, true))
def spec_l06Orbit.l1 : Nat → List (S25) → List ByteArray → Int → List Int → Int → Int → Option ((List (S25)) × List ByteArray × Bool)
  | 0, _, _, _, _, _, _ => none
  | k + 1, x5, x6, x7, x21, x22, x23 => if x23 < x22 then (if 0 ≤ x23 then (if x23 < (x21.length : Int) then (if 0 ≤ x7 then (if x7 < (x5.length : Int) then ((spec_l05Letter.f k ((rd_T25 x5 x7).f0) ((rd_T25 x5 x7).f1) (rd x21 x23)).bind fun bt868 => ((spec_l03Canon.f k bt868.1 bt868.2).bind fun bt874 => ((spec_l06Find.f k x5 bt874.1 bt874.2).bind fun t881 => (if t881 < 0 then (if x5.length < 2932031007402 then (if x7 < (x6.length : Int) then ((some (([rd x21 x23] : List Int) : List Int)).bind fun y886 => (if (rdOf ByteArray.empty x6 x7).size + (strOfNums y886).size ≤ 9223372036854775807 then (if x6.length < 8796093022208 then (spec_l06Orbit.l1 k (x5 ++ [(⟨bt874.1, bt874.2⟩ : S25)]) (x6 ++ [(rdOf ByteArray.empty x6 x7) ++ (strOfNums y886)]) x7 x21 x22 (wrap64 (x23 + 1))) else (none)) else (none))) else (none)) else (none)) else (spec_l06Orbit.l1 k x5 x6 x7 x21 x22 (wrap64 (x23 + 1))))))) else (none)) else (none)) else (none)) else (none)) else (if (x5.length : Int) > 120 then (some (([] : List (S25)), ([] : List ByteArray), false)) else (spec_l06Orbit.l0 k x5 x6 (wrap64 (x7 + 1))))
end
def spec_l06Orbit.f (k : Nat) (l0_0 : List Int) (l0_1 : List Int) : Option ((List (S25)) × List ByteArray × Bool) := (spec_l03Canon.f k l0_0 l0_1).bind fun bt851 => (spec_l06Orbit.l0 k (([(⟨bt851.1, bt851.2⟩ : S25)] : List (S25))) (([(⟨#[]⟩ : ByteArray)] : List ByteArray)) 0)
theorem spec_l06Orbit.mono_l : ∀ k, (∀ y0 y1 y2, LeO (spec_l06Orbit.l0 k y0 y1 y2) (spec_l06Orbit.l0 (k + 1) y0 y1 y2)) ∧ (∀ y0 y1 y2 y3 y4 y5, LeO (spec_l06Orbit.l1 k y0 y1 y2 y3 y4 y5) (spec_l06Orbit.l1 (k + 1) y0 y1 y2 y3 y4 y5))
  | 0 => ⟨fun _ _ _ r h => by simp [spec_l06Orbit.l0] at h, fun _ _ _ _ _ _ r h => by simp [spec_l06Orbit.l1] at h⟩
  | k + 1 => by
    obtain ⟨ih0, ih1⟩ := spec_l06Orbit.mono_l k
    refine ⟨?_, ?_⟩
    · intro y0 y1 y2
      unfold spec_l06Orbit.l0
      repeat' first|exact ih0 _ _ _|exact ih1 _ _ _ _ _ _|exact spec_l03Canon.mono _ _ _|exact spec_l05Letter.mono _ _ _ _|exact spec_l06Find.mono _ _ _ _|exact lo_|refine LeO.ite ?_ ?_|refine LeO.bind ?_ (fun _ => ?_)
    · intro y0 y1 y2 y3 y4 y5
      unfold spec_l06Orbit.l1
      repeat' first|exact ih0 _ _ _|exact ih1 _ _ _ _ _ _|exact spec_l03Canon.mono _ _ _|exact spec_l05Letter.mono _ _ _ _|exact spec_l06Find.mono _ _ _ _|exact lo_|refine LeO.ite ?_ ?_|refine LeO.bind ?_ (fun _ => ?_)
theorem spec_l06Orbit.mono : ∀ a0 a1 k, LeO (spec_l06Orbit.f k a0 a1) (spec_l06Orbit.f (k + 1) a0 a1) := by
  intro a0 a1 k
  obtain ⟨ih0, ih1⟩ := spec_l06Orbit.mono_l k
  unfold spec_l06Orbit.f
  repeat' first|exact ih0 _ _ _|exact ih1 _ _ _ _ _ _|exact spec_l03Canon.mono _ _ _|exact spec_l05Letter.mono _ _ _ _|exact spec_l06Find.mono _ _ _ _|exact lo_|refine LeO.ite ?_ ?_|refine LeO.bind ?_ (fun _ => ?_)
def spec_l06Orbit.T12 : Bool × List (List Nat × List Nat) := (true, [([], []), ([], []), ([], []), ([1, 2], [1, 2]), ([3], [3]), ([], []), ([5], [5]), ([6], [6]), ([4, 7], [4, 7]), ([8], [8]), ([0, 9], [0, 9]), ([10, 10, 0, 1, 2, 3, 4, 5, 6, 7, 8, 9, 10], [0, 1, 10])])
def spec_l06Orbit.B12 : List Nat := [0, 0, 0, 6, 14, 0, 32, 96, 254, 510, 1023, 2047]
theorem spec_l06Orbit.tab12 : rtab .any (opsOf Try.f84 12) = spec_l06Orbit.T12 := by kernel_rfl
theorem spec_l06Orbit.bits12 : waitsOk spec_l06Orbit.T12.2 spec_l06Orbit.B12 = true := by kernel_rfl
set_option maxHeartbeats 8000000 in
set_option maxRecDepth 100000 in
theorem spec_l06Orbit.calls (k : Nat) (A0_0 : Option Addr) (c0_0 : Nat) (l0_0 : List Int) (A0_1 : Option Addr) (c0_1 : Nat) (l0_1 : List Int) (r1 : List (S25)) (r2 : List ByteArray) (r3 : Bool) (w : World) (hr0_0 : Kd.C (Kd.int .i64) w A0_0 l0_0.length l0_0) (hc0_0 : l0_0.length ≤ c0_0) (hr0_1 : Kd.C (Kd.int .i64) w A0_1 l0_1.length l0_1) (hc0_1 : l0_1.length ≤ c0_1) (h : spec_l06Orbit.f k l0_0 l0_1 = some (r1, r2, r3)) :
    Calls Try.prog 84 #[.agg #[.slice A0_0 l0_0.length c0_0, .slice A0_1 l0_1.length c0_1]] w fun e w' => ∃ v0_ v1_ : Value, e = .returned (.tuple #[v0_, v1_, .bool r3]) ∧ Kd.N k25 25 w' w.heap.size (fun k_ => (w.heap.size ≤ k_) ∧ some k_ ≠ (v1_ : Value).ownBlock) v0_ r1 ∧ Kd.R Kd.string 9 w' w.heap.size (fun k_ => (w.heap.size ≤ k_)) v1_ r2 ∧ Below w.heap.size w w' := by
  have hu25 := Try.underlying25
  have HR0_0 := Aside0.mk hr0_0
  have HC0_0 := Aside0.mk hc0_0
  clear hr0_0 hc0_0
  have HR0_1 := Aside0.mk hr0_1
  have HC0_1 := Aside0.mk hc0_1
  clear hr0_1 hc0_1
  have HB := Aside0.mk (Below.refl w.heap.size w)
  have H := h
  unfold spec_l06Orbit.f at H
  clear h
  obtain ⟨⟨t851, t854⟩, A2, H⟩ := bi_ H
  try dsimp only at H
  obtain ⟨y857, hy857⟩ : ∃ y_ : List (S25), y_ = (([(⟨t851, t854⟩ : S25)] : List (S25))) := ⟨_, rfl⟩
  replace H : (spec_l06Orbit.l0 k y857 (([(⟨#[]⟩ : ByteArray)] : List ByteArray)) 0) = some (r1, r2, r3) := by first | (rw [hy857]; exact H) | exact H
  have Ny857 := Aside0.mk hy857
  clear hy857
  obtain ⟨y860, hy860⟩ : ∃ y_ : List ByteArray, y_ = (([(⟨#[]⟩ : ByteArray)] : List ByteArray)) := ⟨_, rfl⟩
  replace H : (spec_l06Orbit.l0 k y857 y860 0) = some (r1, r2, r3) := by first | (rw [hy860]; exact H) | exact H
  have Ny860 := Aside0.mk hy860
  clear hy860
  have H' := Aside0.mk H
  clear H
  go_enter Try.func84, Try.ntmps84
  go_wp2_with (first | ((with_reducible refine gate_dst (N := 1) rfl ?_); refine bx_ 1 #[.slice A0_0 l0_0.length c0_0, .slice A0_1 l0_1.length c0_1] 25 ?_; intro gb850 hg w3 hbox hb; have BK850 := Aside0.mk hbox; have GW850 := gw_ w hg; have GE850 := GW850; replace HB := b1_ hb; clear hb hbox hg; obtain ⟨hcz4_0, hcz4_1, hfz4_0, hfz4_1⟩ := c2_ BK850) | ((with_reducible refine gate_callee (f := 82) rfl ?_); refine gL_ (some 12) Try.func82 #[.agg #[.slice A0_0 l0_0.length c0_0, .slice A0_1 l0_1.length c0_1]] rfl qa_ ?_; (with_reducible refine (spec_l03Canon.calls k _ _ l0_0 _ _ l0_1 t851 t854 _ (cb_ HR0_0) HC0_0.out (cb_ HR0_1) HC0_1.out A2.out).mono ?_); rintro e w5 ⟨v852, v855, rfl, ho0, ho1, hb⟩; refine ⟨_, rfl, ?_⟩; have HO853 := Aside0.mk (Kd.R_lower (Kd.R_newM (M := fun k_ => (w.heap.size ≤ k_)) ho0 (below_size hB_) (fun k_ h_ => h_)) (below_size hB_)); have HO856 := Aside0.mk (Kd.R_lower (Kd.R_newM (M := fun k_ => (w.heap.size ≤ k_)) ho1 (below_size hB_) (fun k_ h_ => h_)) (below_size hB_)); replace BK850 := bb_ BK850 hb; replace HB := b1_ hb; clear hb ho0 ho1; obtain ⟨Ao6, co6, eo6⟩ := Kd.R_slice HO853.out; subst eo6; obtain ⟨Ao7, co7, eo7⟩ := Kd.R_slice HO856.out; subst eo7) | ((with_reducible refine gate_dst (N := 13) rfl ?_); refine Kd.N_lit k25 _ 25 ?hg (N' := 13) ?hd (xs := ([(⟨t851, t854⟩ : S25)] : List (S25))) (inner := [.slice Ao6 t851.length co6, .slice Ao7 t854.length co7]) (ok := (fun k_ => (w.heap.size ≤ k_) ∧ k_ ≠ gb850)) (okp := (fun k_ => (w.heap.size ≤ k_) ∧ k_ ≠ gb850)) ?hr ?hp (fun _ hk => hk) ((show ∀ k_, w5.heap.size ≤ k_ → (fun k_ => (w.heap.size ≤ k_) ∧ k_ ≠ gb850) k_ from fun k_ hk => ⟨(Nat.le_trans (below_size hB_) hk), Kd.freshB (kk_ BK850) k_ hk⟩) _ (Nat.le_refl _)) (Below.refl _ _) (Nat.le_refl _) (by simp) ?_; (case hd => rfl); (case hg => rfl); (case hr => first | (go_simp; done) | (go_simp; rfl)); (case hp => exact (Reps.c2 (show Kd.FK k25 _ _ (⟨t851, t854⟩ : S25) [.slice Ao6 t851.length co6, .slice Ao7 t854.length co7] from (k25_mkF _ _ (⟨t851, t854⟩ : S25) (Kd.R_reads' (Kd.R_mono (ok' := (fun k_ => (w.heap.size ≤ k_) ∧ k_ ≠ gb850)) (Kd.R_types (HO853.out) BK850.out (by decide)) (fun k_ hk => ⟨hk.1.1, hk.2⟩))).2.1 (Kd.R_F (Kd.R_mono (ok' := (fun k_ => (w.heap.size ≤ k_) ∧ k_ ≠ gb850)) (Kd.R_types (HO853.out) BK850.out (by decide)) (fun k_ hk => ⟨hk.1.1, hk.2⟩))) (Kd.R_reads' (Kd.R_mono (ok' := (fun k_ => (w.heap.size ≤ k_) ∧ k_ ≠ gb850)) (Kd.R_types (HO856.out) BK850.out (by decide)) (fun k_ hk => ⟨hk.1.1, hk.2⟩))).2.1 (Kd.R_F (Kd.R_mono (ok' := (fun k_ => (w.heap.size ≤ k_) ∧ k_ ≠ gb850)) (Kd.R_types (HO856.out) BK850.out (by decide)) (fun k_ hk => ⟨hk.1.1, hk.2⟩))))) (Reps.none _ _))); intro v858 w8 ho9 hb hg_ hnew_; clear hg_ hnew_; (first | rw [← Ny857.out] at ho9 | (simp only [Int.reduceToNat] at ho9; rw [← Ny857.out] at ho9)); have HO859 := Aside0.mk (Kd.N_lower ho9 (below_size hB_)); replace BK850 := bb_ BK850 hb; replace HB := b1_ hb; clear HO853 HO856; clear hb ho9) | ((with_reducible refine gate_dst (N := 14) rfl ?_); refine Kd.R_lit Kd.string _ 9 ?hg (N := 14) ?hd (xs := ([(⟨#[]⟩ : ByteArray)] : List ByteArray)) (inner := [.string (⟨#[]⟩ : ByteArray)]) (ok := fun _ => True) (okp := fun _ => True) ?hr ?hp (fun _ hk => hk) trivial (Below.refl _ _) (Nat.le_refl _) (by simp) ?_; (case hd => rfl); (case hg => rfl); (case hr => first | (go_simp; done) | (go_simp; rfl)); (case hp => exact (Reps.one (show Kd.M Kd.string _ _ _ (⟨#[]⟩ : ByteArray) [.string (⟨#[]⟩ : ByteArray)] from rfl) (Reps.none _ _))); intro v861 w10 ho11 hb hg_ hnew_; clear hg_ hnew_; (first | rw [← Ny860.out] at ho11 | (simp only [Int.reduceToNat] at ho11; rw [← Ny860.out] at ho11)); replace HO859 := Aside0.mk (Kd.N_elder' (by (with_reducible repeat (first | apply Kd.N_alloc | apply Kd.N_drewN | apply Kd.N_drew)); exact HO859.out) (Kd.R_base ho11) hb); have HO862 := Aside0.mk (Kd.R_lower (Kd.R_newM (M := fun k_ => (w.heap.size ≤ k_)) ho11 (below_size hB_) (fun k_ h_ => h_)) (below_size hB_)); replace BK850 := bb_ BK850 hb; replace HB := b1_ hb; clear hb ho11))
  go_loopg [5, 6, 7] k (fun kq v5 v6 v7 w' => ∃ (x5_1 : List (S25)) (x6_1 : List ByteArray) (x7_1 : Int), v7 = .int .i64 x7_1 ∧ Aside0 (spec_l06Orbit.l0 kq x5_1 x6_1 x7_1 = some (r1, r2, r3)) ∧ Aside0 (kq ≤ k) ∧ Aside0 (Kd.N k25 25 w' w.heap.size (fun k_ => (w.heap.size ≤ k_) ∧ some k_ ≠ (v6 : Value).ownBlock ∧ k_ ≠ gb850) v5 x5_1) ∧ Aside0 (Kd.R Kd.string 9 w' w.heap.size (fun k_ => (w.heap.size ≤ k_)) v6 x6_1) ∧ Aside0 (w'.heap[gb850]? = some (.cells #[(.slice A0_0 l0_0.length c0_0), (.slice A0_1 l0_1.length c0_1)] 25 (0, 0))) ∧ Aside0 (Below w.heap.size w w'))
  case atStart => exact ⟨(y857), (y860), (0), qc_, H', ⟨Nat.le_refl _⟩, ⟨by (with_reducible repeat (first | apply Kd.N_alloc | apply Kd.N_drewN | apply Kd.N_drew)); exact Kd.N_mono HO859.out (fun _ hk => ⟨hk.1.1, ⟨hk.2, hk.1.2⟩⟩)⟩, ⟨(rw_ (Kd.R_mono HO862.out (fun _ hk => hk.1)))⟩, ⟨(kk_ BK850)⟩, ⟨hB_⟩⟩
  case round =>
    clear H'
    obtain ⟨x5_1, x6_1, x7_1, rfl, HA, HK1, HO_5, HO_6, BK850, HB⟩ := hrel
    cases gk with
    | zero => exact absurd HA.out (by simp [spec_l06Orbit.l0])
    | succ k1 =>
      have H := HA.out
      clear HA
      simp only [spec_l06Orbit.l0] at H
      by_cases c12 : x7_1 < (x5_1.length : Int)
      · rw [if_pos c12] at H
        have c12b0 := decide_eq_true c12
        clear c12
        obtain ⟨y863, hy863⟩ : ∃ y_ : List Int, y_ = (([84, 83] : List Int)) := ⟨_, rfl⟩
        replace H : (spec_l06Orbit.l1 k1 x5_1 x6_1 x7_1 y863 (y863.length : Int) 0) = some (r1, r2, r3) := by first | (rw [hy863]; exact H) | exact H
        have Ny863 := Aside0.mk hy863
        clear hy863
        have H' := Aside0.mk H
        clear H
        obtain ⟨Ao13, co13, eo13⟩ := Kd.N_slice HO_5.out
        subst eo13
        go_wp2_with (first | ((with_reducible refine gate_dst (N := 21) rfl ?_); refine Kd.R_lit (Kd.int .u8) _ 5 ?hg (N := 21) ?hd (xs := ([84, 83] : List Int)) (inner := [.int .u8 84, .int .u8 83]) (ok := fun _ => True) (okp := fun _ => True) ?hr ?hp (fun _ hk => hk) trivial (Below.refl _ _) (Nat.le_refl _) (by simp) ?_; (case hd => rfl); (case hg => rfl); (case hr => first | (go_simp; done) | (go_simp; rfl)); (case hp => exact (Reps.one (show Kd.M (Kd.int .u8) _ _ _ 84 [.int .u8 84] from rfl) (Reps.one (show Kd.M (Kd.int .u8) _ _ _ 83 [.int .u8 83] from rfl) (Reps.none _ _)))); intro v864 w14 ho15 hb hg_ hnew_; clear hg_ hnew_; (first | rw [← Ny863.out] at ho15 | (simp only [Int.reduceToNat] at ho15; rw [← Ny863.out] at ho15)); replace HO_5 := Aside0.mk (Kd.N_elder' (by (with_reducible repeat (first | apply Kd.N_alloc | apply Kd.N_drewN | apply Kd.N_drew)); exact HO_5.out) (Kd.R_base ho15) hb); replace HO_6 := rb_ HO_6 hb; have HO865 := Aside0.mk (Kd.R_lower (Kd.R_newM (M := fun k_ => (w.heap.size ≤ k_)) ho15 (below_size hB_) (fun k_ h_ => h_)) (below_size hB_)); replace BK850 := bb_ BK850 hb; replace HB := b1_ hb; clear hb ho15; obtain ⟨Ao16, co16, eo16⟩ := Kd.R_slice HO865.out; subst eo16))
        go_loopg [5, 6, 23] k1 (fun kq v5 v6 v23 w' => ∃ (x5_2 : List (S25)) (x6_2 : List ByteArray) (x23_2 : Int), v23 = .int .i64 x23_2 ∧ Aside0 (spec_l06Orbit.l1 kq x5_2 x6_2 x7_1 y863 (y863.length : Int) x23_2 = some (r1, r2, r3)) ∧ Aside0 (kq ≤ k1) ∧ Aside0 (Kd.N k25 25 w' w.heap.size (fun k_ => (w.heap.size ≤ k_) ∧ some k_ ≠ (v6 : Value).ownBlock ∧ some k_ ≠ ((.slice Ao16 y863.length co16) : Value).ownBlock ∧ k_ ≠ gb850) v5 x5_2) ∧ Aside0 (Kd.R Kd.string 9 w' w.heap.size (fun k_ => (w.heap.size ≤ k_)) v6 x6_2) ∧ Aside0 (Kd.R (Kd.int .u8) 5 w' w.heap.size (fun k_ => (w.heap.size ≤ k_)) (.slice Ao16 y863.length co16) y863) ∧ Aside0 (w'.heap[gb850]? = some (.cells #[(.slice A0_0 l0_0.length c0_0), (.slice A0_1 l0_1.length c0_1)] 25 (0, 0))) ∧ Aside0 (Below w.heap.size w w'))
        case atStart => exact ⟨(x5_1), (x6_1), (0), qc_, H', ⟨Nat.le_refl _⟩, ⟨by (with_reducible repeat (first | apply Kd.N_alloc | apply Kd.N_drewN | apply Kd.N_drew)); exact Kd.N_mono HO_5.out (fun _ hk => ⟨hk.1.1, ⟨hk.1.2.1, ⟨hk.2, hk.1.2.2⟩⟩⟩)⟩, ⟨(rr_ HO_6)⟩, ⟨(rw_ (Kd.R_mono HO865.out (fun _ hk => hk.1)))⟩, ⟨(kk_ BK850)⟩, ⟨hB_⟩⟩
        case round =>
          clear H'
          obtain ⟨x5_2, x6_2, x23_2, rfl, HA, HK2, HO_5, HO_6, HO_21, BK850, HB⟩ := hrel
          cases gk with
          | zero => exact absurd HA.out (by simp [spec_l06Orbit.l1])
          | succ k2 =>
            have H := HA.out
            clear HA
            simp only [spec_l06Orbit.l1] at H
            by_cases c17 : x23_2 < (y863.length : Int)
            · rw [if_pos c17] at H
              have c17b0 := decide_eq_true c17
              clear c17
              have c18 := cp_ H
              replace H := ca_ H
              have c18b0 := decide_eq_true c18
              clear c18
              have c19 := cp_ H
              replace H := ca_ H
              have c19b0 := decide_eq_true c19
              clear c19
              have c20 := cp_ H
              replace H := ca_ H
              have c20b0 := decide_eq_true c20
              clear c20
              have c21 := cp_ H
              replace H := ca_ H
              have c21b0 := decide_eq_true c21
              clear c21
              obtain ⟨⟨t868, t871⟩, A22, H⟩ := bi_ H
              try dsimp only at H
              obtain ⟨⟨t874, t877⟩, A23, H⟩ := bi_ H
              try dsimp only at H
              obtain ⟨t881, A24, H⟩ := bi_ H
              by_cases c25 : t881 < 0
              · rw [if_pos c25] at H
                have c25b0 := decide_eq_true c25
                clear c25
                have c26 := cp_ H
                replace H := ca_ H
                have LMc26 := Aside0.mk c26
                clear c26
                obtain ⟨y882, hy882⟩ : ∃ y_ : List (S25), y_ = (x5_2 ++ [(⟨t874, t877⟩ : S25)]) := ⟨_, rfl⟩
                replace H : (if x7_1 < (x6_2.length : Int) then ((some (([rd y863 x23_2] : List Int) : List Int)).bind fun y886 => (if (rdOf ByteArray.empty x6_2 x7_1).size + (strOfNums y886).size ≤ 9223372036854775807 then (if x6_2.length < 8796093022208 then (spec_l06Orbit.l1 k2 y882 (x6_2 ++ [(rdOf ByteArray.empty x6_2 x7_1) ++ (strOfNums y886)]) x7_1 y863 (y863.length : Int) (wrap64 (x23_2 + 1))) else (none)) else (none))) else (none)) = some (r1, r2, r3) := by first | (rw [hy882]; exact H) | exact H
                have Ny882 := Aside0.mk hy882
                clear hy882
                have c27 := cp_ H
                replace H := ca_ H
                have c27b0 := decide_eq_true c27
                clear c27
                obtain ⟨y886, hy886⟩ : ∃ y_ : List Int, y_ = (([rd y863 x23_2] : List Int)) := ⟨_, rfl⟩
                replace H : (if (rdOf ByteArray.empty x6_2 x7_1).size + (strOfNums y886).size ≤ 9223372036854775807 then (if x6_2.length < 8796093022208 then (spec_l06Orbit.l1 k2 y882 (x6_2 ++ [(rdOf ByteArray.empty x6_2 x7_1) ++ (strOfNums y886)]) x7_1 y863 (y863.length : Int) (wrap64 (x23_2 + 1))) else (none)) else (none)) = some (r1, r2, r3) := by first | (rw [hy886]; exact H) | exact H
                have Ny886 := Aside0.mk hy886
                clear hy886
                have c28 := cp_ H
                replace H := ca_ H
                have c28b0 := eq_true c28
                have c28b1 := decide_eq_true c28
                try have c28b2 : (9223372036854775807 < (rdOf ByteArray.empty x6_2 x7_1).size + (strOfNums y886).size) = False := eq_false (Nat.not_lt.2 c28)
                have c29 := cp_ H
                replace H := ca_ H
                have LMc29 := Aside0.mk c29
                clear c29
                obtain ⟨y889, hy889⟩ : ∃ y_ : List ByteArray, y_ = (x6_2 ++ [(rdOf ByteArray.empty x6_2 x7_1) ++ (strOfNums y886)]) := ⟨_, rfl⟩
                replace H : (spec_l06Orbit.l1 k2 y882 y889 x7_1 y863 (y863.length : Int) (wrap64 (x23_2 + 1))) = some (r1, r2, r3) := by first | (rw [hy889]; exact H) | exact H
                have Ny889 := Aside0.mk hy889
                clear hy889
                have H' := Aside0.mk H
                clear H
                have p866 : 0 ≤ (x23_2 : Int) := of_decide_eq_true qe_
                have q866 : x23_2 < (y863.length : Int) := of_decide_eq_true qe_
                obtain ⟨ad866, e866, hx866_0⟩ := Kd.at_int (Kd.R_reads' HO_21.out).2.2 x23_2 p866 q866
                cases e866
                replace p866 := eq_true p866
                replace q866 := eq_true q866
                obtain ⟨Ao30, co30, eo30⟩ := Kd.N_slice HO_5.out
                subst eo30
                have p867 : 0 ≤ (x7_1 : Int) := of_decide_eq_true qe_
                have q867 : x7_1 < (x5_2.length : Int) := of_decide_eq_true qe_
                obtain ⟨ad867, A867_0, c867_0, A867_1, c867_1, e867, hx867_0, hx867_1, hl867_0, hi867_0, hl867_1, hi867_1⟩ := at_T25 (Kd.N_reads' HO_5.out).2.2 x7_1 p867 q867
                cases e867
                obtain ⟨ce867, hce867, hMe867, hcc867⟩ := Kd.N_get HO_5.out z25 x7_1 p867 (by first | exact q867 | exact of_decide_eq_true qe_ | (have e_ := (Kd.N_reads' HO_5.out).1; omega))
                obtain ⟨ua867_0, uc867_0, ua867_1, uc867_1, rfl, ul867_0, ge867_0, ul867_1, ge867_1⟩ := k25_openF hMe867
                have hv867_0 := hcc867 0 _ rfl
                rw [Nat.add_zero] at hv867_0
                replace hv867_0 := Option.some.inj (hv867_0.symm.trans hx867_0)
                injection hv867_0 with hva_ hvn_ hvc_
                rw [hva_] at ge867_0
                rw [hvc_] at ul867_0
                have HL867_0 := Aside0.mk (show Kd.V (Kd.int .i64) 3 _ w.heap.size _ _ ((rd_T25 x5_2 x7_1).f0) from Kd.V_mk ul867_0 ge867_0)
                clear hva_ hvn_ hvc_ ge867_0 ul867_0
                have hv867_1 := hcc867 1 _ rfl
                rw [add_field _ _ 1 (by omega)] at hv867_1
                replace hv867_1 := Option.some.inj (hv867_1.symm.trans hx867_1)
                injection hv867_1 with hva_ hvn_ hvc_
                rw [hva_] at ge867_1
                rw [hvc_] at ul867_1
                have HL867_1 := Aside0.mk (show Kd.V (Kd.int .i64) 3 _ w.heap.size _ _ ((rd_T25 x5_2 x7_1).f1) from Kd.V_mk ul867_1 ge867_1)
                clear hva_ hvn_ hvc_ ge867_1 ul867_1
                clear hcc867 hce867
                have HR867_0 := Aside0.mk hi867_0
                have HC867_0 := Aside0.mk hl867_0
                clear hi867_0 hl867_0
                have HR867_1 := Aside0.mk hi867_1
                have HC867_1 := Aside0.mk hl867_1
                clear hi867_1 hl867_1
                replace p867 := eq_true p867
                replace q867 := eq_true q867
                try go_wp2_with (first | ((with_reducible refine gate_callee (f := 87) rfl ?_); refine gL_ (some 32) Try.func87 #[.agg #[.slice A867_0 ((rd_T25 x5_2 x7_1).f0).length c867_0, .slice A867_1 ((rd_T25 x5_2 x7_1).f1).length c867_1], .int .u8 (rd y863 x23_2)] rfl qa_ ?_; (with_reducible refine (spec_l05Letter.calls k2 _ _ ((rd_T25 x5_2 x7_1).f0) _ _ ((rd_T25 x5_2 x7_1).f1) (rd y863 x23_2) t868 t871 _ ?side1 ?side2 ?side3 ?side4 A22.out).mono ?_); (case side1 => repeat (first | exact (by repeat (first | (with_reducible exact HR867_0.out) | (with_reducible refine Kd.C_alloc ?_ _) | (with_reducible refine Kd.C_drewN ?_ _) | (with_reducible refine Kd.C_drew ?_) | exact HR867_0.out)) | (with_reducible refine Kd.C_alloc ?_ _) | (with_reducible refine Kd.C_drewN ?_ _) | (with_reducible refine Kd.C_drew ?_))); (case side2 => exact HC867_0.out); (case side3 => repeat (first | exact (by repeat (first | (with_reducible exact HR867_1.out) | (with_reducible refine Kd.C_alloc ?_ _) | (with_reducible refine Kd.C_drewN ?_ _) | (with_reducible refine Kd.C_drew ?_) | exact HR867_1.out)) | (with_reducible refine Kd.C_alloc ?_ _) | (with_reducible refine Kd.C_drewN ?_ _) | (with_reducible refine Kd.C_drew ?_))); (case side4 => exact HC867_1.out); rintro e w31 ⟨v869, v872, rfl, ho0, ho1, hb⟩; refine ⟨_, rfl, ?_⟩; replace HO_5 := Aside0.mk (Kd.N_mono (Kd.N_told (Kd.N_told (Kd.N_old (by (with_reducible repeat (first | apply Kd.N_alloc | apply Kd.N_drewN | apply Kd.N_drew)); exact HO_5.out) hb) (Kd.R_base ho0)) (Kd.R_base ho1)) (fun _ h_ => h_.1)); replace HO_6 := rb_ HO_6 hb; replace HO_21 := rb_ HO_21 hb; replace HL867_0 := Aside0.mk (Kd.V_mono (Kd.V_told (Kd.V_told (Kd.V_old (by (with_reducible repeat (first | apply Kd.V_alloc | apply Kd.V_drewN | apply Kd.V_drew)); exact HL867_0.out) hb) (Kd.R_base ho0)) (Kd.R_base ho1)) (fun _ h_ => h_.1)); replace HL867_1 := Aside0.mk (Kd.V_mono (Kd.V_told (Kd.V_told (Kd.V_old (by (with_reducible repeat (first | apply Kd.V_alloc | apply Kd.V_drewN | apply Kd.V_drew)); exact HL867_1.out) hb) (Kd.R_base ho0)) (Kd.R_base ho1)) (fun _ h_ => h_.1)); have HO870 := Aside0.mk (Kd.R_lower (Kd.R_newM (M := fun k_ => (w.heap.size ≤ k_)) ho0 (below_size hB_) (fun k_ h_ => h_)) (below_size hB_)); have HO873 := Aside0.mk (Kd.R_lower (Kd.R_newM (M := fun k_ => (w.heap.size ≤ k_)) ho1 (below_size hB_) (fun k_ h_ => h_)) (below_size hB_)); replace BK850 := bb_ BK850 hb; replace HR867_0 := Aside0.mk (Kd.C_below (by repeat (first | (with_reducible exact HR867_0.out) | (with_reducible refine Kd.C_alloc ?_ _) | (with_reducible refine Kd.C_drewN ?_ _) | (with_reducible refine Kd.C_drew ?_) | exact HR867_0.out)) hb); replace HR867_1 := Aside0.mk (Kd.C_below (by repeat (first | (with_reducible exact HR867_1.out) | (with_reducible refine Kd.C_alloc ?_ _) | (with_reducible refine Kd.C_drewN ?_ _) | (with_reducible refine Kd.C_drew ?_) | exact HR867_1.out)) hb); replace HB := b1_ hb; clear hb ho0 ho1; obtain ⟨Ao32, co32, eo32⟩ := Kd.R_slice HO870.out; subst eo32; obtain ⟨Ao33, co33, eo33⟩ := Kd.R_slice HO873.out; subst eo33) | ((with_reducible refine gate_callee (f := 82) rfl ?_); refine gL_ (some 33) Try.func82 #[.agg #[.slice Ao32 t868.length co32, .slice Ao33 t871.length co33]] rfl qa_ ?_; (with_reducible refine (spec_l03Canon.calls k2 _ _ t868 _ _ t871 t874 t877 _ (cr_ HO870) ((Kd.R_reads' HO870.out).2.1) (cr_ HO873) ((Kd.R_reads' HO873.out).2.1) A23.out).mono ?_); rintro e w34 ⟨v875, v878, rfl, ho0, ho1, hb⟩; refine ⟨_, rfl, ?_⟩; replace HO_5 := Aside0.mk (Kd.N_mono (Kd.N_told (Kd.N_told (Kd.N_old (by (with_reducible repeat (first | apply Kd.N_alloc | apply Kd.N_drewN | apply Kd.N_drew)); exact HO_5.out) hb) (Kd.R_base ho0)) (Kd.R_base ho1)) (fun _ h_ => h_.1)); replace HO_6 := rb_ HO_6 hb; replace HO_21 := rb_ HO_21 hb; replace HL867_0 := Aside0.mk (Kd.V_mono (Kd.V_told (Kd.V_told (Kd.V_old (by (with_reducible repeat (first | apply Kd.V_alloc | apply Kd.V_drewN | apply Kd.V_drew)); exact HL867_0.out) hb) (Kd.R_base ho0)) (Kd.R_base ho1)) (fun _ h_ => h_.1)); replace HL867_1 := Aside0.mk (Kd.V_mono (Kd.V_told (Kd.V_told (Kd.V_old (by (with_reducible repeat (first | apply Kd.V_alloc | apply Kd.V_drewN | apply Kd.V_drew)); exact HL867_1.out) hb) (Kd.R_base ho0)) (Kd.R_base ho1)) (fun _ h_ => h_.1)); have HO876 := Aside0.mk (Kd.R_lower (Kd.R_new' (Kd.R_new' (Kd.R_newM (M := fun k_ => (w.heap.size ≤ k_)) ho0 (below_size hB_) (fun k_ h_ => h_)) (Kd.R_lt (rr_ HO870))) (Kd.R_lt (rr_ HO873))) (below_size hB_)); have HO879 := Aside0.mk (Kd.R_lower (Kd.R_new' (Kd.R_new' (Kd.R_newM (M := fun k_ => (w.heap.size ≤ k_)) ho1 (below_size hB_) (fun k_ h_ => h_)) (Kd.R_lt (rr_ HO870))) (Kd.R_lt (rr_ HO873))) (below_size hB_)); replace HO870 := Aside0.mk (Kd.R_mono (Kd.R_told (Kd.R_told (Kd.R_old (rr_ HO870) hb) (Kd.R_base ho0)) (Kd.R_base ho1)) (fun _ h_ => h_.1)); replace HO873 := Aside0.mk (Kd.R_mono (Kd.R_told (Kd.R_told (Kd.R_old (rr_ HO873) hb) (Kd.R_base ho0)) (Kd.R_base ho1)) (fun _ h_ => h_.1)); replace BK850 := bb_ BK850 hb; replace HR867_0 := Aside0.mk (Kd.C_below (by repeat (first | (with_reducible exact HR867_0.out) | (with_reducible refine Kd.C_alloc ?_ _) | (with_reducible refine Kd.C_drewN ?_ _) | (with_reducible refine Kd.C_drew ?_) | exact HR867_0.out)) hb); replace HR867_1 := Aside0.mk (Kd.C_below (by repeat (first | (with_reducible exact HR867_1.out) | (with_reducible refine Kd.C_alloc ?_ _) | (with_reducible refine Kd.C_drewN ?_ _) | (with_reducible refine Kd.C_drew ?_) | exact HR867_1.out)) hb); replace HB := b1_ hb; clear hb ho0 ho1) | ((with_reducible refine gate_dst (N := 10) rfl ?_); refine bx_ 10 #[.slice none 0 0, .slice none 0 0] 25 ?_; intro gb880 hg w35 hbox hb; replace HO_5 := Aside0.mk (Kd.N_below (Kd.N_elderB (by (with_reducible repeat (first | apply Kd.N_alloc | apply Kd.N_drewN | apply Kd.N_drew)); exact HO_5.out) gb880 (Nat.le_of_eq hg.symm)) hb); replace HO_6 := rb_ HO_6 hb; replace HO_21 := rb_ HO_21 hb; replace HL867_0 := Aside0.mk (Kd.V_below (Kd.V_elderB (by (with_reducible repeat (first | apply Kd.V_alloc | apply Kd.V_drewN | apply Kd.V_drew)); exact HL867_0.out) gb880 (Nat.le_of_eq hg.symm)) hb); replace HL867_1 := Aside0.mk (Kd.V_below (Kd.V_elderB (by (with_reducible repeat (first | apply Kd.V_alloc | apply Kd.V_drewN | apply Kd.V_drew)); exact HL867_1.out) gb880 (Nat.le_of_eq hg.symm)) hb); replace HO870 := rb_ HO870 hb; replace HO873 := rb_ HO873 hb; replace HO876 := rb_ HO876 hb; replace HO879 := rb_ HO879 hb; replace HR867_0 := Aside0.mk (Kd.C_below (by repeat (first | (with_reducible exact HR867_0.out) | (with_reducible refine Kd.C_alloc ?_ _) | (with_reducible refine Kd.C_drewN ?_ _) | (with_reducible refine Kd.C_drew ?_) | exact HR867_0.out)) hb); replace HR867_1 := Aside0.mk (Kd.C_below (by repeat (first | (with_reducible exact HR867_1.out) | (with_reducible refine Kd.C_alloc ?_ _) | (with_reducible refine Kd.C_drewN ?_ _) | (with_reducible refine Kd.C_drew ?_) | exact HR867_1.out)) hb); have BK880 := Aside0.mk hbox; have GW880 := gw_ w hg; have GE880 := GW880; replace HB := b1_ hb; have NB850_880 := gN_ BK850 hg; have NB880_850 := gP_ BK850 hg; replace BK850 := bb_ BK850 hb; clear hb hbox hg; obtain ⟨Ao36, co36, eo36⟩ := Kd.R_slice HO876.out; subst eo36; have hnb37 := NB880_850.out; have hnc37 := NB850_880.out; obtain ⟨hcz38_0, hcz38_1, hfz38_0, hfz38_1⟩ := c2_ BK880; obtain ⟨Ao39, co39, eo39⟩ := Kd.R_slice HO879.out; subst eo39) | ((with_reducible refine gate_callee (f := 81) rfl ?_); refine gL_ (some 36) Try.func81 #[.slice (some ad867) x5_2.length co30, .agg #[.slice Ao36 t874.length co36, .slice Ao39 t877.length co39]] rfl qa_ ?_; (with_reducible refine (spec_l06Find.calls k2 _ _ x5_2 _ _ t874 _ _ t877 t881 _ ?side1 ?side2 ?side3 ?side4 ?side5 ?side6 A24.out).mono ?_); (case side1 => refine (Kd.N_reads' (e := 25) (base := w.heap.size) (ok := fun k_ => (((((((w.heap.size ≤ k_) ∧ (some k_ ≠ (u6 : Value).ownBlock ∧ (some k_ ≠ (.slice (some ad866) y863.length co16 : Value).ownBlock ∧ k_ ≠ gb850))) ∧ some k_ ≠ (.slice Ao32 t868.length co32 : Value).ownBlock) ∧ some k_ ≠ (.slice Ao33 t871.length co33 : Value).ownBlock) ∧ some k_ ≠ (.slice Ao36 t874.length co36 : Value).ownBlock) ∧ some k_ ≠ (.slice Ao39 t877.length co39 : Value).ownBlock) ∧ k_ ≠ gb880)) (n := x5_2.length) (c := co30) ?_).2.2; exact (by (with_reducible repeat (first | apply Kd.N_alloc | apply Kd.N_drewN | apply Kd.N_drew)); exact (Kd.N_mono (Kd.N_far (p := ⟨gb880, 1, none⟩) (Kd.N_far (p := ⟨gb880, 0, none⟩) (Kd.N_mono HO_5.out (fun k_ hk => (⟨hk, hk.2⟩ : _ ∧ k_ ≠ gb880))) (fun _ hk => hk.2) (.slice Ao36 t874.length co36)) (fun _ hk => hk.2) (.slice Ao39 t877.length co39)) (fun _ h_ => h_.1)))); (case side2 => exact (Kd.N_reads' HO_5.out).2.1); (case side3 => refine (Kd.R_reads' (e := 3) (base := w.heap.size) (ok := fun k_ => ((((w.heap.size ≤ k_) ∧ some k_ ≠ (.slice Ao39 t877.length co39 : Value).ownBlock) ∧ some k_ ≠ (.slice Ao32 t868.length co32 : Value).ownBlock) ∧ some k_ ≠ (.slice Ao33 t871.length co33 : Value).ownBlock)) (n := t874.length) (c := co36) ?_).2.2; exact (rw_ (fa_ HO876 BK880))); (case side4 => exact (Kd.R_reads' HO876.out).2.1); (case side5 => refine (Kd.R_reads' (e := 3) (base := w.heap.size) (ok := fun k_ => ((((w.heap.size ≤ k_) ∧ some k_ ≠ (.slice Ao36 t874.length co36 : Value).ownBlock) ∧ some k_ ≠ (.slice Ao32 t868.length co32 : Value).ownBlock) ∧ some k_ ≠ (.slice Ao33 t871.length co33 : Value).ownBlock)) (n := t877.length) (c := co39) ?_).2.2; exact (rw_ (fa_ HO879 BK880))); (case side6 => exact (Kd.R_reads' HO879.out).2.1); rintro e w40 ⟨rfl, hb⟩; refine ⟨_, rfl, ?_⟩; replace HO_5 := Aside0.mk (Kd.N_below (by (with_reducible repeat (first | apply Kd.N_alloc | apply Kd.N_drewN | apply Kd.N_drew)); exact (Kd.N_mono (Kd.N_far (p := ⟨gb880, 1, none⟩) (Kd.N_far (p := ⟨gb880, 0, none⟩) (Kd.N_mono HO_5.out (fun k_ hk => (⟨hk, hk.2⟩ : _ ∧ k_ ≠ gb880))) (fun _ hk => hk.2) (.slice Ao36 t874.length co36)) (fun _ hk => hk.2) (.slice Ao39 t877.length co39)) (fun _ h_ => h_.1))) hb); replace HO_6 := Aside0.mk (Kd.R_below (rw_ (fa_ HO_6 BK880)) hb); replace HO_21 := Aside0.mk (Kd.R_below (rw_ (fa_ HO_21 BK880)) hb); replace HO870 := Aside0.mk (Kd.R_below (rw_ (fa_ HO870 BK880)) hb); replace HO873 := Aside0.mk (Kd.R_below (rw_ (fa_ HO873 BK880)) hb); replace HO876 := Aside0.mk (Kd.R_below (rw_ (fa_ HO876 BK880)) hb); replace HO879 := Aside0.mk (Kd.R_below (rw_ (fa_ HO879 BK880)) hb); replace BK850 := Aside0.mk (blk_below (g := gb850) (o := .cells #[.slice A0_0 l0_0.length c0_0, .slice A0_1 l0_1.length c0_1] 25 (0, 0)) (by (with_reducible repeat (first | refine blk_drewN ?_ _ | refine blk_drew ?_ | refine blk_alloc ?_ _)); refine blk_far ?_ NB850_880.out _; (with_reducible repeat (first | refine blk_drewN ?_ _ | refine blk_drew ?_ | refine blk_alloc ?_ _)); refine blk_far ?_ NB850_880.out _; (with_reducible repeat (first | refine blk_drewN ?_ _ | refine blk_drew ?_ | refine blk_alloc ?_ _)); exact BK850.out) hb); replace HR867_0 := Aside0.mk (Kd.C_below ((Kd.V_reads' (by (with_reducible repeat (first | apply Kd.V_alloc | apply Kd.V_drewN | apply Kd.V_drew)); exact (Kd.V_mono (Kd.V_far (p := ⟨gb880, 1, none⟩) (Kd.V_far (p := ⟨gb880, 0, none⟩) (Kd.V_mono HL867_0.out (fun k_ hk => (⟨hk, hk.2⟩ : _ ∧ k_ ≠ gb880))) (fun _ hk => hk.2) (.slice Ao36 t874.length co36)) (fun _ hk => hk.2) (.slice Ao39 t877.length co39)) (fun _ h_ => h_.1)))).2.2) hb); replace HL867_0 := Aside0.mk (Kd.V_below (by (with_reducible repeat (first | apply Kd.V_alloc | apply Kd.V_drewN | apply Kd.V_drew)); exact (Kd.V_mono (Kd.V_far (p := ⟨gb880, 1, none⟩) (Kd.V_far (p := ⟨gb880, 0, none⟩) (Kd.V_mono HL867_0.out (fun k_ hk => (⟨hk, hk.2⟩ : _ ∧ k_ ≠ gb880))) (fun _ hk => hk.2) (.slice Ao36 t874.length co36)) (fun _ hk => hk.2) (.slice Ao39 t877.length co39)) (fun _ h_ => h_.1))) hb); replace HR867_1 := Aside0.mk (Kd.C_below ((Kd.V_reads' (by (with_reducible repeat (first | apply Kd.V_alloc | apply Kd.V_drewN | apply Kd.V_drew)); exact (Kd.V_mono (Kd.V_far (p := ⟨gb880, 1, none⟩) (Kd.V_far (p := ⟨gb880, 0, none⟩) (Kd.V_mono HL867_1.out (fun k_ hk => (⟨hk, hk.2⟩ : _ ∧ k_ ≠ gb880))) (fun _ hk => hk.2) (.slice Ao36 t874.length co36)) (fun _ hk => hk.2) (.slice Ao39 t877.length co39)) (fun _ h_ => h_.1)))).2.2) hb); replace HL867_1 := Aside0.mk (Kd.V_below (by (with_reducible repeat (first | apply Kd.V_alloc | apply Kd.V_drewN | apply Kd.V_drew)); exact (Kd.V_mono (Kd.V_far (p := ⟨gb880, 1, none⟩) (Kd.V_far (p := ⟨gb880, 0, none⟩) (Kd.V_mono HL867_1.out (fun k_ hk => (⟨hk, hk.2⟩ : _ ∧ k_ ≠ gb880))) (fun _ hk => hk.2) (.slice Ao36 t874.length co36)) (fun _ hk => hk.2) (.slice Ao39 t877.length co39)) (fun _ h_ => h_.1))) hb); replace BK880 := Aside0.mk (blk_below (g := gb880) (o := .cells #[.slice Ao36 t874.length co36, .slice Ao39 t877.length co39] 25 (0, 0)) qp_ hb); replace HB := b1_ hb; clear hb; obtain ⟨hcz41_0, hcz41_1, hfz41_0, hfz41_1⟩ := c2_ BK880) | ((with_reducible refine gate_builtin (b := .append) (xs := #[.tmp 38, .tmp 40]) rfl ?_); at_builtin; refine Kd.N_append k25 (w0 := w) w.heap.size rfl (.tmp 38) (.tmp 40) 36 25 (.agg #[(.slice none 0 0), (.slice none 0 0)]) 48 rfl Try.underlying36 info25 rfl (by decide) (by omega) (.slice (some ad867) x5_2.length co30) x5_2 (⟨t874, t877⟩ : S25) [.slice Ao36 t874.length co36, .slice Ao39 t877.length co39] (fun k_ => (w.heap.size ≤ k_) ∧ some k_ ≠ (u6 : Value).ownBlock ∧ some k_ ≠ (.slice (some ad866) y863.length co16 : Value).ownBlock ∧ some k_ ≠ (.slice Ao32 t868.length co32 : Value).ownBlock ∧ some k_ ≠ (.slice Ao33 t871.length co33 : Value).ownBlock ∧ k_ ≠ gb850 ∧ k_ ≠ gb880) (fun k_ => ((fun k_ => (w.heap.size ≤ k_) ∧ some k_ ≠ (u6 : Value).ownBlock ∧ some k_ ≠ (.slice (some ad866) y863.length co16 : Value).ownBlock ∧ some k_ ≠ (.slice Ao32 t868.length co32 : Value).ownBlock ∧ some k_ ≠ (.slice Ao33 t871.length co33 : Value).ownBlock ∧ k_ ≠ gb850 ∧ k_ ≠ gb880)) k_ ∧ some k_ ≠ (.slice (some ad867) x5_2.length co30 : Value).ownBlock) rfl rfl ?aP (fun _ hk => hk) ?aF ?aO ?aB ?aS ?aL ?_; (case aP => exact (k25_mkF _ _ (⟨t874, t877⟩ : S25) (Kd.R_reads' (Kd.R_mono (ok' := (fun k_ => ((fun k_ => (w.heap.size ≤ k_) ∧ some k_ ≠ (u6 : Value).ownBlock ∧ some k_ ≠ (.slice (some ad866) y863.length co16 : Value).ownBlock ∧ some k_ ≠ (.slice Ao32 t868.length co32 : Value).ownBlock ∧ some k_ ≠ (.slice Ao33 t871.length co33 : Value).ownBlock ∧ k_ ≠ gb850 ∧ k_ ≠ gb880)) k_ ∧ some k_ ≠ (.slice (some ad867) x5_2.length co30 : Value).ownBlock)) (Kd.R_types (Kd.R_types (Kd.R_apart' (Kd.R_apart' (Kd.R_apart' (HO876.out) (Kd.R_typed HO_6.out) (by decide)) (Kd.R_typed HO_21.out) (by decide)) (Kd.N_typed HO_5.out) (by decide)) BK850.out (by decide)) BK880.out (by decide)) (fun k_ hk => ⟨⟨hk.1.1.1.1.1.1.1.1, ⟨hk.1.1.1.1.2, ⟨hk.1.1.1.2, ⟨hk.1.1.1.1.1.1.2, ⟨hk.1.1.1.1.1.2, ⟨hk.1.2, hk.2⟩⟩⟩⟩⟩⟩, hk.1.1.2⟩))).2.1 (Kd.R_F (Kd.R_mono (ok' := (fun k_ => ((fun k_ => (w.heap.size ≤ k_) ∧ some k_ ≠ (u6 : Value).ownBlock ∧ some k_ ≠ (.slice (some ad866) y863.length co16 : Value).ownBlock ∧ some k_ ≠ (.slice Ao32 t868.length co32 : Value).ownBlock ∧ some k_ ≠ (.slice Ao33 t871.length co33 : Value).ownBlock ∧ k_ ≠ gb850 ∧ k_ ≠ gb880)) k_ ∧ some k_ ≠ (.slice (some ad867) x5_2.length co30 : Value).ownBlock)) (Kd.R_types (Kd.R_types (Kd.R_apart' (Kd.R_apart' (Kd.R_apart' (HO876.out) (Kd.R_typed HO_6.out) (by decide)) (Kd.R_typed HO_21.out) (by decide)) (Kd.N_typed HO_5.out) (by decide)) BK850.out (by decide)) BK880.out (by decide)) (fun k_ hk => ⟨⟨hk.1.1.1.1.1.1.1.1, ⟨hk.1.1.1.1.2, ⟨hk.1.1.1.2, ⟨hk.1.1.1.1.1.1.2, ⟨hk.1.1.1.1.1.2, ⟨hk.1.2, hk.2⟩⟩⟩⟩⟩⟩, hk.1.1.2⟩))) (Kd.R_reads' (Kd.R_mono (ok' := (fun k_ => ((fun k_ => (w.heap.size ≤ k_) ∧ some k_ ≠ (u6 : Value).ownBlock ∧ some k_ ≠ (.slice (some ad866) y863.length co16 : Value).ownBlock ∧ some k_ ≠ (.slice Ao32 t868.length co32 : Value).ownBlock ∧ some k_ ≠ (.slice Ao33 t871.length co33 : Value).ownBlock ∧ k_ ≠ gb850 ∧ k_ ≠ gb880)) k_ ∧ some k_ ≠ (.slice (some ad867) x5_2.length co30 : Value).ownBlock)) (Kd.R_types (Kd.R_types (Kd.R_apart' (Kd.R_apart' (Kd.R_apart' (HO879.out) (Kd.R_typed HO_6.out) (by decide)) (Kd.R_typed HO_21.out) (by decide)) (Kd.N_typed HO_5.out) (by decide)) BK850.out (by decide)) BK880.out (by decide)) (fun k_ hk => ⟨⟨hk.1.1.1.1.1.1.1.1, ⟨hk.1.1.1.1.2, ⟨hk.1.1.1.2, ⟨hk.1.1.1.1.1.1.2, ⟨hk.1.1.1.1.1.2, ⟨hk.1.2, hk.2⟩⟩⟩⟩⟩⟩, hk.1.1.2⟩))).2.1 (Kd.R_F (Kd.R_mono (ok' := (fun k_ => ((fun k_ => (w.heap.size ≤ k_) ∧ some k_ ≠ (u6 : Value).ownBlock ∧ some k_ ≠ (.slice (some ad866) y863.length co16 : Value).ownBlock ∧ some k_ ≠ (.slice Ao32 t868.length co32 : Value).ownBlock ∧ some k_ ≠ (.slice Ao33 t871.length co33 : Value).ownBlock ∧ k_ ≠ gb850 ∧ k_ ≠ gb880)) k_ ∧ some k_ ≠ (.slice (some ad867) x5_2.length co30 : Value).ownBlock)) (Kd.R_types (Kd.R_types (Kd.R_apart' (Kd.R_apart' (Kd.R_apart' (HO879.out) (Kd.R_typed HO_6.out) (by decide)) (Kd.R_typed HO_21.out) (by decide)) (Kd.N_typed HO_5.out) (by decide)) BK850.out (by decide)) BK880.out (by decide)) (fun k_ hk => ⟨⟨hk.1.1.1.1.1.1.1.1, ⟨hk.1.1.1.1.2, ⟨hk.1.1.1.2, ⟨hk.1.1.1.1.1.1.2, ⟨hk.1.1.1.1.1.2, ⟨hk.1.2, hk.2⟩⟩⟩⟩⟩⟩, hk.1.1.2⟩))))); (case aB => exact hB_); (case aF => exact (fun k_ hk => ⟨(Nat.le_trans (below_size hB_) hk), Kd.fresh' (Kd.R_lt (rr_ HO_6)) k_ hk, Kd.fresh' (Kd.R_lt (rr_ HO_21)) k_ hk, Kd.fresh' (Kd.R_lt (rr_ HO870)) k_ hk, Kd.fresh' (Kd.R_lt (rr_ HO873)) k_ hk, Kd.freshB (kk_ BK850) k_ hk, Kd.freshB (kk_ BK880) k_ hk⟩)); (case aO => exact (by (with_reducible repeat (first | apply Kd.N_alloc | apply Kd.N_drewN | apply Kd.N_drew)); exact Kd.N_mono HO_5.out (fun _ hk => ⟨hk.1.1.1.1.1.1, ⟨hk.1.1.1.1.1.2.1, ⟨hk.1.1.1.1.1.2.2.1, ⟨hk.1.1.1.1.2, ⟨hk.1.1.1.2, ⟨hk.1.1.1.1.1.2.2.2, hk.2⟩⟩⟩⟩⟩⟩))); (case aS => exact (below_size hB_)); (case aL => have := LMc26.out; omega); intro v883 w42 ho hb hg hat; rw [← Ny882.out] at ho; replace HO_6 := Aside0.mk (Kd.R_over' (rr_ HO_6) (Kd.N_typed (by (with_reducible repeat (first | apply Kd.N_alloc | apply Kd.N_drewN | apply Kd.N_drew)); exact HO_5.out)) (by decide) hg); replace HO_21 := Aside0.mk (Kd.R_over' (rr_ HO_21) (Kd.N_typed (by (with_reducible repeat (first | apply Kd.N_alloc | apply Kd.N_drewN | apply Kd.N_drew)); exact HO_5.out)) (by decide) hg); replace BK850 := Aside0.mk (blk_grown (kk_ BK850) hg (Kd.N_away HO_5.out (fun _ hk => hk.1.1.1.1.1.2.2.2))); replace HL867_0 := Aside0.mk (Kd.V_afterv (ok := (fun k_ => (w.heap.size ≤ k_) ∧ some k_ ≠ (u6 : Value).ownBlock ∧ some k_ ≠ (.slice (some ad866) y863.length co16 : Value).ownBlock ∧ some k_ ≠ (.slice Ao32 t868.length co32 : Value).ownBlock ∧ some k_ ≠ (.slice Ao33 t871.length co33 : Value).ownBlock ∧ some k_ ≠ (.slice Ao36 t874.length co36 : Value).ownBlock ∧ some k_ ≠ (.slice Ao39 t877.length co39 : Value).ownBlock ∧ k_ ≠ gb850 ∧ k_ ≠ gb880)) (by (with_reducible repeat (first | apply Kd.V_alloc | apply Kd.V_drewN | apply Kd.V_drew)); exact Kd.V_mono HL867_0.out (fun _ hk => ⟨⟨hk.1.1.1.1.1.1.1, ⟨hk.1.1.1.1.1.1.2.1, ⟨hk.1.1.1.1.1.1.2.2.1, ⟨hk.1.1.1.1.2, ⟨hk.1.1.1.2, ⟨hk.1.1.2, ⟨hk.1.2, ⟨hk.1.1.1.1.1.1.2.2.2, hk.2⟩⟩⟩⟩⟩⟩⟩⟩, hk.1.1.1.1.1.2⟩)) hg hat); replace HL867_1 := Aside0.mk (Kd.V_afterv (ok := (fun k_ => (w.heap.size ≤ k_) ∧ some k_ ≠ (u6 : Value).ownBlock ∧ some k_ ≠ (.slice (some ad866) y863.length co16 : Value).ownBlock ∧ some k_ ≠ (.slice Ao32 t868.length co32 : Value).ownBlock ∧ some k_ ≠ (.slice Ao33 t871.length co33 : Value).ownBlock ∧ some k_ ≠ (.slice Ao36 t874.length co36 : Value).ownBlock ∧ some k_ ≠ (.slice Ao39 t877.length co39 : Value).ownBlock ∧ k_ ≠ gb850 ∧ k_ ≠ gb880)) (by (with_reducible repeat (first | apply Kd.V_alloc | apply Kd.V_drewN | apply Kd.V_drew)); exact Kd.V_mono HL867_1.out (fun _ hk => ⟨⟨hk.1.1.1.1.1.1.1, ⟨hk.1.1.1.1.1.1.2.1, ⟨hk.1.1.1.1.1.1.2.2.1, ⟨hk.1.1.1.1.2, ⟨hk.1.1.1.2, ⟨hk.1.1.2, ⟨hk.1.2, ⟨hk.1.1.1.1.1.1.2.2.2, hk.2⟩⟩⟩⟩⟩⟩⟩⟩, hk.1.1.1.1.1.2⟩)) hg hat); replace HO870 := Aside0.mk (Kd.R_over' (rr_ HO870) (Kd.N_typed (by (with_reducible repeat (first | apply Kd.N_alloc | apply Kd.N_drewN | apply Kd.N_drew)); exact HO_5.out)) (by decide) hg); replace HO873 := Aside0.mk (Kd.R_over' (rr_ HO873) (Kd.N_typed (by (with_reducible repeat (first | apply Kd.N_alloc | apply Kd.N_drewN | apply Kd.N_drew)); exact HO_5.out)) (by decide) hg); replace BK880 := Aside0.mk (blk_grown (kk_ BK880) hg (Kd.N_away HO_5.out (fun _ hk => hk.2))); replace HB := Aside0.mk hb; have HO884 := Aside0.mk ho; clear HO_5 HO876 HO879; clear ho hb hg hat; obtain ⟨Ao43, co43, eo43⟩ := Kd.R_slice HO_6.out; subst eo43; have p885 : 0 ≤ (x7_1 : Int) := of_decide_eq_true qe_; have q885 : x7_1 < (x6_2.length : Int) := of_decide_eq_true qe_; obtain ⟨ad885, e885, hx885_0⟩ := Kd.at_string (Kd.R_reads' HO_6.out).2.2 x7_1 p885 q885; cases e885; replace p885 := eq_true p885; replace q885 := eq_true q885))
                replace HO_6 := Aside0.mk (Kd.R_drew HO_6.out)
                replace HO_21 := Aside0.mk (Kd.R_drew HO_21.out)
                replace HL867_0 := Aside0.mk (Kd.V_drew HL867_0.out)
                replace HL867_1 := Aside0.mk (Kd.V_drew HL867_1.out)
                replace HO870 := Aside0.mk (Kd.R_drew HO870.out)
                replace HO873 := Aside0.mk (Kd.R_drew HO873.out)
                replace HO884 := Aside0.mk (Kd.N_drew HO884.out)
                replace BK850 := Aside0.mk (blk_drew BK850.out)
                replace BK880 := Aside0.mk (blk_drew BK880.out)
                replace HB := Aside0.mk (below_drew1 HB.out)
                have hx_ : w42.drew.cell? (ad885.add (x7_1).toNat) = some (.string (rdOf ByteArray.empty x6_2 x7_1)) := hx885_0
                refine start_ (n := 12) (S := fun w' => w'.cell? (ad885.add (x7_1).toNat) = some (.string (rdOf ByteArray.empty x6_2 x7_1))) (ds := [10]) (bl_ 12 0) (by kernel_rfl) rfl (by kernel_rfl) hx_ (fun hHeld => ?_); refine with_tabW spec_l06Orbit.tab12 spec_l06Orbit.bits12 (fun HT_ HW_ => ?_)
                generalize w42.drew = w44 at HO_6 HO_21 HL867_0 HL867_1 HO870 HO873 HO884 BK850 BK880 HB hHeld ⊢
                refine pu_ 0 (some 42) (bl_ 12 1) HT_ ?_
                refine pu_ 1 (some 43) (bl_ 12 3) HT_ ?_
                refine pu_ 2 (some 44) (bl_ 12 7) HT_ ?_
                refine pu_ 3 (some 45) (bl_ 12 15) HT_ ?_
                refine ta_ 4 (some 46) (bl_ 12 31) HT_ HW_ hHeld ?_
                refine pu_ 5 (some 47) (bl_ 12 63) HT_ ?_
                refine on_ 6 (some 48) (bl_ 12 127) HT_ (fun K hK => ?_)
                refine Kd.R_lit_step (Kd.int .u8) _ 5 ?hg (N := 48) ?hd (xs := ([rd y863 x23_2] : List Int)) (inner := [.int .u8 (rd y863 x23_2)]) (ok := fun _ => True) (okp := fun _ => True) ?hr ?hp (fun _ hk => hk) trivial (Below.refl _ _) (Nat.le_refl _) (by simp) ?_; (case hd => rfl); (case hg => rfl); (case hr => first | (go_simp; done) | (go_simp; rfl)); (case hp => exact (Reps.one (show Kd.M (Kd.int .u8) _ _ _ (rd y863 x23_2) [.int .u8 (rd y863 x23_2)] from rfl) (Reps.none _ _)))
                intro v887 w45 ho46 hb hg_ hnew_
                have hS1_ := (hb.cell (World.block_lt_of_cell? _ _ hHeld)).trans hHeld
                clear hg_ hnew_
                (first | rw [← Ny886.out] at ho46 | (simp only [Int.reduceToNat] at ho46; rw [← Ny886.out] at ho46))
                replace HO_6 := rb_ HO_6 hb
                replace HL867_0 := Aside0.mk (Kd.V_elder' (by (with_reducible repeat (first | apply Kd.V_alloc | apply Kd.V_drewN | apply Kd.V_drew)); exact HL867_0.out) (Kd.R_base ho46) hb)
                replace HL867_1 := Aside0.mk (Kd.V_elder' (by (with_reducible repeat (first | apply Kd.V_alloc | apply Kd.V_drewN | apply Kd.V_drew)); exact HL867_1.out) (Kd.R_base ho46) hb)
                replace HO870 := rb_ HO870 hb
                replace HO873 := rb_ HO873 hb
                replace HO884 := Aside0.mk (Kd.N_elder' (by (with_reducible repeat (first | apply Kd.N_alloc | apply Kd.N_drewN | apply Kd.N_drew)); exact HO884.out) (Kd.R_base ho46) hb)
                have HO888 := Aside0.mk (Kd.R_lower (Kd.R_new' (Kd.R_newM (M := fun k_ => (w.heap.size ≤ k_)) ho46 (below_size hB_) (fun k_ h_ => h_)) (Kd.R_lt (rr_ HO_21))) (below_size hB_))
                replace HO_21 := Aside0.mk (Kd.R_elder' (rr_ HO_21) (Kd.R_base ho46) hb)
                replace BK850 := bb_ BK850 hb
                replace BK880 := bb_ BK880 hb
                replace HB := b1_ hb
                clear hb ho46
                refine hK.out _ _ hS1_ (fun hHeld => ?_)
                clear hK K
                refine no_ (some 48) ?_
                refine on_ 7 (some 49) (bl_ 12 255) HT_ (fun K hK => ?_)
                have hcv47 := own_string (P := Try.prog) Try.underlying22 Try.underlying5 Try.underlying9 (Kd.own_of_R HO888.out)
                refine value_ (w1 := ?_) (v := ?_) (by rfl) rfl ?_ ?_
                rotate_left 2
                · go_simp
                  constructor
                  · rfl
                  · rfl
                clear hcv47
                refine hK.out _ _ hHeld (fun hHeld => ?_)
                clear hK K
                refine no_ (some 49) ?_
                refine pu_ 8 (some 50) (bl_ 12 511) HT_ ?_
                refine on_ 9 (some 51) (bl_ 12 1023) HT_ (fun K hK => ?_)
                refine value_ (w1 := ?_) (v := ?_) (by rfl) rfl ?_ ?_
                rotate_left 2
                · go_simp
                  constructor
                  · rfl
                  · rfl
                refine hK.out _ _ (by first | exact hHeld | exact ((below_alloc (Below.refl _ _) _).cell (World.block_lt_of_cell? _ _ hHeld)).trans hHeld) (fun hHeld => ?_)
                clear hK K
                refine no_ (some 51) ?_
                refine last_ (i := 10) (N := some 52) (bl_ 12 2047) rfl rfl (one_of HT_.out (by kernel_rfl)) (by decide) (fun K hK => ?_)
                refine Kd.R_append_step Kd.string (w0 := w) w.heap.size (by rfl) (.tmp 42) (.tmp 51) 53 9 (.string ⟨#[]⟩) 16 rfl Try.underlying53 info9 rfl (by decide) (by omega) (.slice (some ad885) x6_2.length co43) x6_2 ((rdOf ByteArray.empty x6_2 x7_1) ++ (strOfNums y886)) [.string ((rdOf ByteArray.empty x6_2 x7_1) ++ (strOfNums y886))] (fun k_ => (w.heap.size ≤ k_)) (fun _ => False) rfl rfl ?aP (fun _ hk => hk.elim) ?aF ?aO ?aB ?aS ?aL ?_
                (case aP => exact rfl)
                (case aB => exact hB_)
                (case aF => exact (fun k_ hk => (Nat.le_trans (below_size hB_) hk)))
                (case aO => exact (rr_ HO_6))
                (case aS => exact (below_size hB_))
                (case aL => have := LMc29.out; omega)
                intro v890 w48 ho hb hg hat
                rw [← Ny889.out] at ho
                replace HO_21 := Aside0.mk (Kd.R_over' (rr_ HO_21) (Kd.R_typed (rr_ HO_6)) (by decide) hg)
                replace BK850 := Aside0.mk (blk_grown (kk_ BK850) hg (Kd.R_ne HO_6.out BK850.out (by decide)))
                replace HL867_0 := Aside0.mk (Kd.V_afterv (ok := (fun k_ => (w.heap.size ≤ k_) ∧ some k_ ≠ (.slice (some ad866) y863.length co16 : Value).ownBlock ∧ some k_ ≠ (.slice Ao32 t868.length co32 : Value).ownBlock ∧ some k_ ≠ (.slice Ao33 t871.length co33 : Value).ownBlock ∧ some k_ ≠ (v883 : Value).ownBlock ∧ some k_ ≠ (v887 : Value).ownBlock ∧ k_ ≠ gb850 ∧ k_ ≠ gb880)) (by (with_reducible repeat (first | apply Kd.V_alloc | apply Kd.V_drewN | apply Kd.V_drew)); exact Kd.V_mono HL867_0.out (fun _ hk => ⟨⟨hk.1.1.1, ⟨hk.1.1.2.2.1, ⟨hk.1.1.2.2.2.1, ⟨hk.1.1.2.2.2.2.1, ⟨hk.1.2, ⟨hk.2, ⟨hk.1.1.2.2.2.2.2.2.2.1, hk.1.1.2.2.2.2.2.2.2.2⟩⟩⟩⟩⟩⟩⟩, hk.1.1.2.1⟩)) hg hat)
                replace HL867_1 := Aside0.mk (Kd.V_afterv (ok := (fun k_ => (w.heap.size ≤ k_) ∧ some k_ ≠ (.slice (some ad866) y863.length co16 : Value).ownBlock ∧ some k_ ≠ (.slice Ao32 t868.length co32 : Value).ownBlock ∧ some k_ ≠ (.slice Ao33 t871.length co33 : Value).ownBlock ∧ some k_ ≠ (v883 : Value).ownBlock ∧ some k_ ≠ (v887 : Value).ownBlock ∧ k_ ≠ gb850 ∧ k_ ≠ gb880)) (by (with_reducible repeat (first | apply Kd.V_alloc | apply Kd.V_drewN | apply Kd.V_drew)); exact Kd.V_mono HL867_1.out (fun _ hk => ⟨⟨hk.1.1.1, ⟨hk.1.1.2.2.1, ⟨hk.1.1.2.2.2.1, ⟨hk.1.1.2.2.2.2.1, ⟨hk.1.2, ⟨hk.2, ⟨hk.1.1.2.2.2.2.2.2.2.1, hk.1.1.2.2.2.2.2.2.2.2⟩⟩⟩⟩⟩⟩⟩, hk.1.1.2.1⟩)) hg hat)
                replace HO870 := Aside0.mk (Kd.R_over' (rr_ HO870) (Kd.R_typed (rr_ HO_6)) (by decide) hg)
                replace HO873 := Aside0.mk (Kd.R_over' (rr_ HO873) (Kd.R_typed (rr_ HO_6)) (by decide) hg)
                replace BK880 := Aside0.mk (blk_grown (kk_ BK880) hg (Kd.R_ne HO_6.out BK880.out (by decide)))
                replace HO884 := Aside0.mk (Kd.N_afterv (ok := (fun k_ => (w.heap.size ≤ k_) ∧ some k_ ≠ (.slice (some ad866) y863.length co16 : Value).ownBlock ∧ some k_ ≠ (.slice Ao32 t868.length co32 : Value).ownBlock ∧ some k_ ≠ (.slice Ao33 t871.length co33 : Value).ownBlock ∧ some k_ ≠ (v887 : Value).ownBlock ∧ k_ ≠ gb850 ∧ k_ ≠ gb880)) (by (with_reducible repeat (first | apply Kd.N_alloc | apply Kd.N_drewN | apply Kd.N_drew)); exact Kd.N_mono HO884.out (fun _ hk => ⟨⟨hk.1.1, ⟨hk.1.2.2.1, ⟨hk.1.2.2.2.1, ⟨hk.1.2.2.2.2.1, ⟨hk.2, ⟨hk.1.2.2.2.2.2.1, hk.1.2.2.2.2.2.2⟩⟩⟩⟩⟩⟩, hk.1.2.1⟩)) hg hat)
                replace HO888 := Aside0.mk (Kd.R_over' (rr_ HO888) (Kd.R_typed (rr_ HO_6)) (by decide) hg)
                replace HB := Aside0.mk hb
                have HO891 := Aside0.mk ho
                clear HO_6
                clear ho hb hg hat
                refine hK.out _ _ ?_
                clear hK K
                refine no_ (some 52) ?_
                refine pu_ 11 (some 6) (bl_ 12 4095) HT_ ?_
                refine done_ (done_of HT_.out (by kernel_rfl)) ?_
                try go_wp2
                go_roundg k2
                case measure => have := HK1.out; have := HK2.out; omega
                case rel => exact ⟨(y882), (y889), (wrap64 (x23_2 + 1)), qc_, H', ⟨by have := HK1.out; have := HK2.out; omega⟩, ⟨by (with_reducible repeat (first | apply Kd.N_alloc | apply Kd.N_drewN | apply Kd.N_drew)); exact Kd.N_mono HO884.out (fun _ hk => ⟨hk.1.1, ⟨hk.2, ⟨hk.1.2.1, hk.1.2.2.2.2.2.1⟩⟩⟩)⟩, ⟨(rr_ HO891)⟩, ⟨(rw_ (Kd.R_mono HO_21.out (fun _ hk => hk.1)))⟩, ⟨(kk_ BK850)⟩, ⟨hB_⟩⟩
              · rw [if_neg c25] at H
                have c25b0 := decide_eq_false c25
                clear c25
                have H' := Aside0.mk H
                clear H
                have p866 : 0 ≤ (x23_2 : Int) := of_decide_eq_true qe_
                have q866 : x23_2 < (y863.length : Int) := of_decide_eq_true qe_
                obtain ⟨ad866, e866, hx866_0⟩ := Kd.at_int (Kd.R_reads' HO_21.out).2.2 x23_2 p866 q866
                cases e866
                replace p866 := eq_true p866
                replace q866 := eq_true q866
                obtain ⟨Ao49, co49, eo49⟩ := Kd.N_slice HO_5.out
                subst eo49
                have p867 : 0 ≤ (x7_1 : Int) := of_decide_eq_true qe_
                have q867 : x7_1 < (x5_2.length : Int) := of_decide_eq_true qe_
                obtain ⟨ad867, A867_0, c867_0, A867_1, c867_1, e867, hx867_0, hx867_1, hl867_0, hi867_0, hl867_1, hi867_1⟩ := at_T25 (Kd.N_reads' HO_5.out).2.2 x7_1 p867 q867
                cases e867
                obtain ⟨ce867, hce867, hMe867, hcc867⟩ := Kd.N_get HO_5.out z25 x7_1 p867 (by first | exact q867 | exact of_decide_eq_true qe_ | (have e_ := (Kd.N_reads' HO_5.out).1; omega))
                obtain ⟨ua867_0, uc867_0, ua867_1, uc867_1, rfl, ul867_0, ge867_0, ul867_1, ge867_1⟩ := k25_openF hMe867
                have hv867_0 := hcc867 0 _ rfl
                rw [Nat.add_zero] at hv867_0
                replace hv867_0 := Option.some.inj (hv867_0.symm.trans hx867_0)
                injection hv867_0 with hva_ hvn_ hvc_
                rw [hva_] at ge867_0
                rw [hvc_] at ul867_0
                have HL867_0 := Aside0.mk (show Kd.V (Kd.int .i64) 3 _ w.heap.size _ _ ((rd_T25 x5_2 x7_1).f0) from Kd.V_mk ul867_0 ge867_0)
                clear hva_ hvn_ hvc_ ge867_0 ul867_0
                have hv867_1 := hcc867 1 _ rfl
                rw [add_field _ _ 1 (by omega)] at hv867_1
                replace hv867_1 := Option.some.inj (hv867_1.symm.trans hx867_1)
                injection hv867_1 with hva_ hvn_ hvc_
                rw [hva_] at ge867_1
                rw [hvc_] at ul867_1
                have HL867_1 := Aside0.mk (show Kd.V (Kd.int .i64) 3 _ w.heap.size _ _ ((rd_T25 x5_2 x7_1).f1) from Kd.V_mk ul867_1 ge867_1)
                clear hva_ hvn_ hvc_ ge867_1 ul867_1
                clear hcc867 hce867
                have HR867_0 := Aside0.mk hi867_0
                have HC867_0 := Aside0.mk hl867_0
                clear hi867_0 hl867_0
                have HR867_1 := Aside0.mk hi867_1
                have HC867_1 := Aside0.mk hl867_1
                clear hi867_1 hl867_1
                replace p867 := eq_true p867
                replace q867 := eq_true q867
                go_wp2_with (first | ((with_reducible refine gate_callee (f := 87) rfl ?_); refine gL_ (some 32) Try.func87 #[.agg #[.slice A867_0 ((rd_T25 x5_2 x7_1).f0).length c867_0, .slice A867_1 ((rd_T25 x5_2 x7_1).f1).length c867_1], .int .u8 (rd y863 x23_2)] rfl qa_ ?_; (with_reducible refine (spec_l05Letter.calls k2 _ _ ((rd_T25 x5_2 x7_1).f0) _ _ ((rd_T25 x5_2 x7_1).f1) (rd y863 x23_2) t868 t871 _ ?side1 ?side2 ?side3 ?side4 A22.out).mono ?_); (case side1 => repeat (first | exact (by repeat (first | (with_reducible exact HR867_0.out) | (with_reducible refine Kd.C_alloc ?_ _) | (with_reducible refine Kd.C_drewN ?_ _) | (with_reducible refine Kd.C_drew ?_) | exact HR867_0.out)) | (with_reducible refine Kd.C_alloc ?_ _) | (with_reducible refine Kd.C_drewN ?_ _) | (with_reducible refine Kd.C_drew ?_))); (case side2 => exact HC867_0.out); (case side3 => repeat (first | exact (by repeat (first | (with_reducible exact HR867_1.out) | (with_reducible refine Kd.C_alloc ?_ _) | (with_reducible refine Kd.C_drewN ?_ _) | (with_reducible refine Kd.C_drew ?_) | exact HR867_1.out)) | (with_reducible refine Kd.C_alloc ?_ _) | (with_reducible refine Kd.C_drewN ?_ _) | (with_reducible refine Kd.C_drew ?_))); (case side4 => exact HC867_1.out); rintro e w50 ⟨v869, v872, rfl, ho0, ho1, hb⟩; refine ⟨_, rfl, ?_⟩; replace HO_5 := Aside0.mk (Kd.N_mono (Kd.N_told (Kd.N_told (Kd.N_old (by (with_reducible repeat (first | apply Kd.N_alloc | apply Kd.N_drewN | apply Kd.N_drew)); exact HO_5.out) hb) (Kd.R_base ho0)) (Kd.R_base ho1)) (fun _ h_ => h_.1)); replace HO_6 := rb_ HO_6 hb; replace HO_21 := rb_ HO_21 hb; replace HL867_0 := Aside0.mk (Kd.V_mono (Kd.V_told (Kd.V_told (Kd.V_old (by (with_reducible repeat (first | apply Kd.V_alloc | apply Kd.V_drewN | apply Kd.V_drew)); exact HL867_0.out) hb) (Kd.R_base ho0)) (Kd.R_base ho1)) (fun _ h_ => h_.1)); replace HL867_1 := Aside0.mk (Kd.V_mono (Kd.V_told (Kd.V_told (Kd.V_old (by (with_reducible repeat (first | apply Kd.V_alloc | apply Kd.V_drewN | apply Kd.V_drew)); exact HL867_1.out) hb) (Kd.R_base ho0)) (Kd.R_base ho1)) (fun _ h_ => h_.1)); have HO870 := Aside0.mk (Kd.R_lower (Kd.R_newM (M := fun k_ => (w.heap.size ≤ k_)) ho0 (below_size hB_) (fun k_ h_ => h_)) (below_size hB_)); have HO873 := Aside0.mk (Kd.R_lower (Kd.R_newM (M := fun k_ => (w.heap.size ≤ k_)) ho1 (below_size hB_) (fun k_ h_ => h_)) (below_size hB_)); replace BK850 := bb_ BK850 hb; replace HR867_0 := Aside0.mk (Kd.C_below (by repeat (first | (with_reducible exact HR867_0.out) | (with_reducible refine Kd.C_alloc ?_ _) | (with_reducible refine Kd.C_drewN ?_ _) | (with_reducible refine Kd.C_drew ?_) | exact HR867_0.out)) hb); replace HR867_1 := Aside0.mk (Kd.C_below (by repeat (first | (with_reducible exact HR867_1.out) | (with_reducible refine Kd.C_alloc ?_ _) | (with_reducible refine Kd.C_drewN ?_ _) | (with_reducible refine Kd.C_drew ?_) | exact HR867_1.out)) hb); replace HB := b1_ hb; clear hb ho0 ho1; obtain ⟨Ao51, co51, eo51⟩ := Kd.R_slice HO870.out; subst eo51; obtain ⟨Ao52, co52, eo52⟩ := Kd.R_slice HO873.out; subst eo52) | ((with_reducible refine gate_callee (f := 82) rfl ?_); refine gL_ (some 33) Try.func82 #[.agg #[.slice Ao51 t868.length co51, .slice Ao52 t871.length co52]] rfl qa_ ?_; (with_reducible refine (spec_l03Canon.calls k2 _ _ t868 _ _ t871 t874 t877 _ (cr_ HO870) ((Kd.R_reads' HO870.out).2.1) (cr_ HO873) ((Kd.R_reads' HO873.out).2.1) A23.out).mono ?_); rintro e w53 ⟨v875, v878, rfl, ho0, ho1, hb⟩; refine ⟨_, rfl, ?_⟩; replace HO_5 := Aside0.mk (Kd.N_mono (Kd.N_told (Kd.N_told (Kd.N_old (by (with_reducible repeat (first | apply Kd.N_alloc | apply Kd.N_drewN | apply Kd.N_drew)); exact HO_5.out) hb) (Kd.R_base ho0)) (Kd.R_base ho1)) (fun _ h_ => h_.1)); replace HO_6 := rb_ HO_6 hb; replace HO_21 := rb_ HO_21 hb; replace HL867_0 := Aside0.mk (Kd.V_mono (Kd.V_told (Kd.V_told (Kd.V_old (by (with_reducible repeat (first | apply Kd.V_alloc | apply Kd.V_drewN | apply Kd.V_drew)); exact HL867_0.out) hb) (Kd.R_base ho0)) (Kd.R_base ho1)) (fun _ h_ => h_.1)); replace HL867_1 := Aside0.mk (Kd.V_mono (Kd.V_told (Kd.V_told (Kd.V_old (by (with_reducible repeat (first | apply Kd.V_alloc | apply Kd.V_drewN | apply Kd.V_drew)); exact HL867_1.out) hb) (Kd.R_base ho0)) (Kd.R_base ho1)) (fun _ h_ => h_.1)); have HO876 := Aside0.mk (Kd.R_lower (Kd.R_new' (Kd.R_new' (Kd.R_newM (M := fun k_ => (w.heap.size ≤ k_)) ho0 (below_size hB_) (fun k_ h_ => h_)) (Kd.R_lt (rr_ HO870))) (Kd.R_lt (rr_ HO873))) (below_size hB_)); have HO879 := Aside0.mk (Kd.R_lower (Kd.R_new' (Kd.R_new' (Kd.R_newM (M := fun k_ => (w.heap.size ≤ k_)) ho1 (below_size hB_) (fun k_ h_ => h_)) (Kd.R_lt (rr_ HO870))) (Kd.R_lt (rr_ HO873))) (below_size hB_)); replace HO870 := Aside0.mk (Kd.R_mono (Kd.R_told (Kd.R_told (Kd.R_old (rr_ HO870) hb) (Kd.R_base ho0)) (Kd.R_base ho1)) (fun _ h_ => h_.1)); replace HO873 := Aside0.mk (Kd.R_mono (Kd.R_told (Kd.R_told (Kd.R_old (rr_ HO873) hb) (Kd.R_base ho0)) (Kd.R_base ho1)) (fun _ h_ => h_.1)); replace BK850 := bb_ BK850 hb; replace HR867_0 := Aside0.mk (Kd.C_below (by repeat (first | (with_reducible exact HR867_0.out) | (with_reducible refine Kd.C_alloc ?_ _) | (with_reducible refine Kd.C_drewN ?_ _) | (with_reducible refine Kd.C_drew ?_) | exact HR867_0.out)) hb); replace HR867_1 := Aside0.mk (Kd.C_below (by repeat (first | (with_reducible exact HR867_1.out) | (with_reducible refine Kd.C_alloc ?_ _) | (with_reducible refine Kd.C_drewN ?_ _) | (with_reducible refine Kd.C_drew ?_) | exact HR867_1.out)) hb); replace HB := b1_ hb; clear hb ho0 ho1) | ((with_reducible refine gate_dst (N := 10) rfl ?_); refine bx_ 10 #[.slice none 0 0, .slice none 0 0] 25 ?_; intro gb880 hg w54 hbox hb; replace HO_5 := Aside0.mk (Kd.N_below (Kd.N_elderB (by (with_reducible repeat (first | apply Kd.N_alloc | apply Kd.N_drewN | apply Kd.N_drew)); exact HO_5.out) gb880 (Nat.le_of_eq hg.symm)) hb); replace HO_6 := rb_ HO_6 hb; replace HO_21 := rb_ HO_21 hb; replace HL867_0 := Aside0.mk (Kd.V_below (Kd.V_elderB (by (with_reducible repeat (first | apply Kd.V_alloc | apply Kd.V_drewN | apply Kd.V_drew)); exact HL867_0.out) gb880 (Nat.le_of_eq hg.symm)) hb); replace HL867_1 := Aside0.mk (Kd.V_below (Kd.V_elderB (by (with_reducible repeat (first | apply Kd.V_alloc | apply Kd.V_drewN | apply Kd.V_drew)); exact HL867_1.out) gb880 (Nat.le_of_eq hg.symm)) hb); replace HO870 := rb_ HO870 hb; replace HO873 := rb_ HO873 hb; replace HO876 := rb_ HO876 hb; replace HO879 := rb_ HO879 hb; replace HR867_0 := Aside0.mk (Kd.C_below (by repeat (first | (with_reducible exact HR867_0.out) | (with_reducible refine Kd.C_alloc ?_ _) | (with_reducible refine Kd.C_drewN ?_ _) | (with_reducible refine Kd.C_drew ?_) | exact HR867_0.out)) hb); replace HR867_1 := Aside0.mk (Kd.C_below (by repeat (first | (with_reducible exact HR867_1.out) | (with_reducible refine Kd.C_alloc ?_ _) | (with_reducible refine Kd.C_drewN ?_ _) | (with_reducible refine Kd.C_drew ?_) | exact HR867_1.out)) hb); have BK880 := Aside0.mk hbox; have GW880 := gw_ w hg; have GE880 := GW880; replace HB := b1_ hb; have NB850_880 := gN_ BK850 hg; have NB880_850 := gP_ BK850 hg; replace BK850 := bb_ BK850 hb; clear hb hbox hg; obtain ⟨Ao55, co55, eo55⟩ := Kd.R_slice HO876.out; subst eo55; have hnb56 := NB880_850.out; have hnc56 := NB850_880.out; obtain ⟨hcz57_0, hcz57_1, hfz57_0, hfz57_1⟩ := c2_ BK880; obtain ⟨Ao58, co58, eo58⟩ := Kd.R_slice HO879.out; subst eo58) | ((with_reducible refine gate_callee (f := 81) rfl ?_); refine gL_ (some 36) Try.func81 #[.slice (some ad867) x5_2.length co49, .agg #[.slice Ao55 t874.length co55, .slice Ao58 t877.length co58]] rfl qa_ ?_; (with_reducible refine (spec_l06Find.calls k2 _ _ x5_2 _ _ t874 _ _ t877 t881 _ ?side1 ?side2 ?side3 ?side4 ?side5 ?side6 A24.out).mono ?_); (case side1 => refine (Kd.N_reads' (e := 25) (base := w.heap.size) (ok := fun k_ => (((((((w.heap.size ≤ k_) ∧ (some k_ ≠ (u6 : Value).ownBlock ∧ (some k_ ≠ (.slice (some ad866) y863.length co16 : Value).ownBlock ∧ k_ ≠ gb850))) ∧ some k_ ≠ (.slice Ao51 t868.length co51 : Value).ownBlock) ∧ some k_ ≠ (.slice Ao52 t871.length co52 : Value).ownBlock) ∧ some k_ ≠ (.slice Ao55 t874.length co55 : Value).ownBlock) ∧ some k_ ≠ (.slice Ao58 t877.length co58 : Value).ownBlock) ∧ k_ ≠ gb880)) (n := x5_2.length) (c := co49) ?_).2.2; exact (by (with_reducible repeat (first | apply Kd.N_alloc | apply Kd.N_drewN | apply Kd.N_drew)); exact (Kd.N_mono (Kd.N_far (p := ⟨gb880, 1, none⟩) (Kd.N_far (p := ⟨gb880, 0, none⟩) (Kd.N_mono HO_5.out (fun k_ hk => (⟨hk, hk.2⟩ : _ ∧ k_ ≠ gb880))) (fun _ hk => hk.2) (.slice Ao55 t874.length co55)) (fun _ hk => hk.2) (.slice Ao58 t877.length co58)) (fun _ h_ => h_.1)))); (case side2 => exact (Kd.N_reads' HO_5.out).2.1); (case side3 => refine (Kd.R_reads' (e := 3) (base := w.heap.size) (ok := fun k_ => ((((w.heap.size ≤ k_) ∧ some k_ ≠ (.slice Ao58 t877.length co58 : Value).ownBlock) ∧ some k_ ≠ (.slice Ao51 t868.length co51 : Value).ownBlock) ∧ some k_ ≠ (.slice Ao52 t871.length co52 : Value).ownBlock)) (n := t874.length) (c := co55) ?_).2.2; exact (rw_ (fa_ HO876 BK880))); (case side4 => exact (Kd.R_reads' HO876.out).2.1); (case side5 => refine (Kd.R_reads' (e := 3) (base := w.heap.size) (ok := fun k_ => ((((w.heap.size ≤ k_) ∧ some k_ ≠ (.slice Ao55 t874.length co55 : Value).ownBlock) ∧ some k_ ≠ (.slice Ao51 t868.length co51 : Value).ownBlock) ∧ some k_ ≠ (.slice Ao52 t871.length co52 : Value).ownBlock)) (n := t877.length) (c := co58) ?_).2.2; exact (rw_ (fa_ HO879 BK880))); (case side6 => exact (Kd.R_reads' HO879.out).2.1); rintro e w59 ⟨rfl, hb⟩; refine ⟨_, rfl, ?_⟩; replace HO_5 := Aside0.mk (Kd.N_below (by (with_reducible repeat (first | apply Kd.N_alloc | apply Kd.N_drewN | apply Kd.N_drew)); exact (Kd.N_mono (Kd.N_far (p := ⟨gb880, 1, none⟩) (Kd.N_far (p := ⟨gb880, 0, none⟩) (Kd.N_mono HO_5.out (fun k_ hk => (⟨hk, hk.2⟩ : _ ∧ k_ ≠ gb880))) (fun _ hk => hk.2) (.slice Ao55 t874.length co55)) (fun _ hk => hk.2) (.slice Ao58 t877.length co58)) (fun _ h_ => h_.1))) hb); replace HO_6 := Aside0.mk (Kd.R_below (rw_ (fa_ HO_6 BK880)) hb); replace HO_21 := Aside0.mk (Kd.R_below (rw_ (fa_ HO_21 BK880)) hb); replace HO870 := Aside0.mk (Kd.R_below (rw_ (fa_ HO870 BK880)) hb); replace HO873 := Aside0.mk (Kd.R_below (rw_ (fa_ HO873 BK880)) hb); replace HO876 := Aside0.mk (Kd.R_below (rw_ (fa_ HO876 BK880)) hb); replace HO879 := Aside0.mk (Kd.R_below (rw_ (fa_ HO879 BK880)) hb); replace BK850 := Aside0.mk (blk_below (g := gb850) (o := .cells #[.slice A0_0 l0_0.length c0_0, .slice A0_1 l0_1.length c0_1] 25 (0, 0)) (by (with_reducible repeat (first | refine blk_drewN ?_ _ | refine blk_drew ?_ | refine blk_alloc ?_ _)); refine blk_far ?_ NB850_880.out _; (with_reducible repeat (first | refine blk_drewN ?_ _ | refine blk_drew ?_ | refine blk_alloc ?_ _)); refine blk_far ?_ NB850_880.out _; (with_reducible repeat (first | refine blk_drewN ?_ _ | refine blk_drew ?_ | refine blk_alloc ?_ _)); exact BK850.out) hb); replace HR867_0 := Aside0.mk (Kd.C_below ((Kd.V_reads' (by (with_reducible repeat (first | apply Kd.V_alloc | apply Kd.V_drewN | apply Kd.V_drew)); exact (Kd.V_mono (Kd.V_far (p := ⟨gb880, 1, none⟩) (Kd.V_far (p := ⟨gb880, 0, none⟩) (Kd.V_mono HL867_0.out (fun k_ hk => (⟨hk, hk.2⟩ : _ ∧ k_ ≠ gb880))) (fun _ hk => hk.2) (.slice Ao55 t874.length co55)) (fun _ hk => hk.2) (.slice Ao58 t877.length co58)) (fun _ h_ => h_.1)))).2.2) hb); replace HL867_0 := Aside0.mk (Kd.V_below (by (with_reducible repeat (first | apply Kd.V_alloc | apply Kd.V_drewN | apply Kd.V_drew)); exact (Kd.V_mono (Kd.V_far (p := ⟨gb880, 1, none⟩) (Kd.V_far (p := ⟨gb880, 0, none⟩) (Kd.V_mono HL867_0.out (fun k_ hk => (⟨hk, hk.2⟩ : _ ∧ k_ ≠ gb880))) (fun _ hk => hk.2) (.slice Ao55 t874.length co55)) (fun _ hk => hk.2) (.slice Ao58 t877.length co58)) (fun _ h_ => h_.1))) hb); replace HR867_1 := Aside0.mk (Kd.C_below ((Kd.V_reads' (by (with_reducible repeat (first | apply Kd.V_alloc | apply Kd.V_drewN | apply Kd.V_drew)); exact (Kd.V_mono (Kd.V_far (p := ⟨gb880, 1, none⟩) (Kd.V_far (p := ⟨gb880, 0, none⟩) (Kd.V_mono HL867_1.out (fun k_ hk => (⟨hk, hk.2⟩ : _ ∧ k_ ≠ gb880))) (fun _ hk => hk.2) (.slice Ao55 t874.length co55)) (fun _ hk => hk.2) (.slice Ao58 t877.length co58)) (fun _ h_ => h_.1)))).2.2) hb); replace HL867_1 := Aside0.mk (Kd.V_below (by (with_reducible repeat (first | apply Kd.V_alloc | apply Kd.V_drewN | apply Kd.V_drew)); exact (Kd.V_mono (Kd.V_far (p := ⟨gb880, 1, none⟩) (Kd.V_far (p := ⟨gb880, 0, none⟩) (Kd.V_mono HL867_1.out (fun k_ hk => (⟨hk, hk.2⟩ : _ ∧ k_ ≠ gb880))) (fun _ hk => hk.2) (.slice Ao55 t874.length co55)) (fun _ hk => hk.2) (.slice Ao58 t877.length co58)) (fun _ h_ => h_.1))) hb); replace BK880 := Aside0.mk (blk_below (g := gb880) (o := .cells #[.slice Ao55 t874.length co55, .slice Ao58 t877.length co58] 25 (0, 0)) qp_ hb); replace HB := b1_ hb; clear hb))
                go_roundg k2
                case measure => have := HK1.out; have := HK2.out; omega
                case rel => exact ⟨(x5_2), (x6_2), (wrap64 (x23_2 + 1)), qc_, H', ⟨by have := HK1.out; have := HK2.out; omega⟩, ⟨by (with_reducible repeat (first | apply Kd.N_alloc | apply Kd.N_drewN | apply Kd.N_drew)); exact Kd.N_mono HO_5.out (fun _ hk => ⟨hk.1.1.1.1.1.1, ⟨hk.1.1.1.1.1.2.1, ⟨hk.1.1.1.1.1.2.2.1, hk.1.1.1.1.1.2.2.2⟩⟩⟩)⟩, ⟨(rr_ HO_6)⟩, ⟨(rr_ HO_21)⟩, ⟨(kk_ BK850)⟩, ⟨hB_⟩⟩
            · rw [if_neg c17] at H
              have c17b0 := decide_eq_false c17
              clear c17
              by_cases c60 : (x5_2.length : Int) > 120
              · rw [if_pos c60] at H
                have c60b0 : decide (120 < (x5_2.length : Int)) = true := decide_eq_true c60
                have c60b1 : decide (120 < x5_2.length) = true := decide_eq_true (by omega)
                clear c60
                simp only [Option.some.injEq, Prod.mk.injEq] at H
                obtain ⟨rfl, rfl, rfl⟩ := H
                obtain ⟨Ao61, co61, eo61⟩ := Kd.N_slice HO_5.out
                subst eo61
                go_wp2
                go_ret3
                exact ⟨_, _, qb_, by first | exact Kd.S_nil _ _ _ _ _ | exact Kd.N_nil _ _ _ _ _ | exact Kd.V_nil _ _ _ _ _ | exact Kd.Q_nil _ _ _ _ _ | exact Kd.R_nil _ _ _ _ _, by first | exact Kd.R_nil _ _ _ _ _ | exact Kd.N_nil _ _ _ _ _ | exact Kd.V_nil _ _ _ _ _ | exact Kd.Q_nil _ _ _ _ _ | exact Kd.S_nil _ _ _ _ _, hB_⟩
              · rw [if_neg c60] at H
                have c60b0 : decide (120 < (x5_2.length : Int)) = false := decide_eq_false c60
                have c60b1 : decide (120 < x5_2.length) = false := decide_eq_false (by omega)
                clear c60
                have H' := Aside0.mk H
                clear H
                obtain ⟨Ao62, co62, eo62⟩ := Kd.N_slice HO_5.out
                subst eo62
                go_wp2
                go_roundg k2
                case measure => have := HK1.out; have := HK2.out; omega
                case rel => exact ⟨(x5_2), (x6_2), (wrap64 (x7_1 + 1)), qc_, H', ⟨by have := HK1.out; have := HK2.out; omega⟩, ⟨by (with_reducible repeat (first | apply Kd.N_alloc | apply Kd.N_drewN | apply Kd.N_drew)); exact Kd.N_mono HO_5.out (fun _ hk => ⟨hk.1, ⟨hk.2.1, hk.2.2.2⟩⟩)⟩, ⟨(rr_ HO_6)⟩, ⟨(kk_ BK850)⟩, ⟨hB_⟩⟩
      · rw [if_neg c12] at H
        have c12b0 := decide_eq_false c12
        clear c12
        simp only [Option.some.injEq, Prod.mk.injEq] at H
        obtain ⟨rfl, rfl, rfl⟩ := H
        obtain ⟨Ao63, co63, eo63⟩ := Kd.N_slice HO_5.out
        subst eo63
        go_wp2
        go_ret3
        exact ⟨_, _, qb_, by (with_reducible repeat (first | apply Kd.N_alloc | apply Kd.N_drewN | apply Kd.N_drew)); exact Kd.N_mono HO_5.out (fun _ hk => ⟨hk.1, hk.2.1⟩), (rr_ HO_6), hB_⟩
end Go.Proofs.Ytcggfjpnfodbaaa.A
end
section
namespace Go.Proofs.Ytcggfjpnfodbaaa.A
open Go.RowKit Go.Proofs.YtcggfjpnfodbaaaW.PrintWords Go.Proofs.YtcggfjpnfodbaaaW.PrintLast Go.Proofs.YtcggfjpnfodbaaaW.PrintMore
attribute [local go_sem] max2_int min2_int max_two min_two max_three min_three max_four min_four
set_option linter.unusedVariables false
set_option linter.unusedSimpArgs false
def spec_OrbitWord.j0 : Nat → Bool → List Int → List Int → List Int → List Int → Option (ByteArray × Bool)
  | 0, _, _, _, _, _ => none
  | k + 1, x17, x1011000, x1011001, x1012000, x1012001 => if x17 = true then (some ((⟨#[]⟩ : ByteArray), false)) else ((spec_l06Orbit.f k x1011000 x1011001).bind fun bt1014 => ((spec_l03Canon.f k x1012000 x1012001).bind fun bt1021 => ((spec_l06Find.f k bt1014.1 bt1021.1 bt1021.2).bind fun t1027 => (if bt1014.2.2 = true then (if t1027 < 0 then (some ((⟨#[]⟩ : ByteArray), false)) else (if 0 ≤ t1027 then (if t1027 < (bt1014.2.1.length : Int) then (if ((rdOf ByteArray.empty bt1014.2.1 t1027).size : Int) > 40 then (some ((⟨#[]⟩ : ByteArray), false)) else (some (rdOf ByteArray.empty bt1014.2.1 t1027, true))) else (none)) else (none))) else (some ((⟨#[]⟩ : ByteArray), false))))))
def spec_OrbitWord.f (k : Nat) (l0_0 : List Int) (l0_1 : List Int) (l1_0 : List Int) (l1_1 : List Int) : Option (ByteArray × Bool) := (spec_SurfaceOk.f k l0_0 l0_1).bind fun t1012 => (if t1012 = true then ((spec_SurfaceOk.f k l1_0 l1_1).bind fun t1013 => (spec_OrbitWord.j0 k (!t1013) l0_0 l0_1 l1_0 l1_1)) else (spec_OrbitWord.j0 k true l0_0 l0_1 l1_0 l1_1))
theorem spec_OrbitWord.mono_l : ∀ k, (∀ y0 y1 y2 y3 y4, LeO (spec_OrbitWord.j0 k y0 y1 y2 y3 y4) (spec_OrbitWord.j0 (k + 1) y0 y1 y2 y3 y4))
  | 0 => fun _ _ _ _ _ r h => by simp [spec_OrbitWord.j0] at h
  | k + 1 => by
    have ih0 := spec_OrbitWord.mono_l k
    · intro y0 y1 y2 y3 y4
      unfold spec_OrbitWord.j0
      repeat' first|exact ih0 _ _ _ _ _|exact spec_SurfaceOk.mono _ _ _|exact spec_l03Canon.mono _ _ _|exact spec_l06Find.mono _ _ _ _|exact spec_l06Orbit.mono _ _ _|exact lo_|refine LeO.ite ?_ ?_|refine LeO.bind ?_ (fun _ => ?_)
theorem spec_OrbitWord.mono : ∀ a0 a1 a2 a3 k, LeO (spec_OrbitWord.f k a0 a1 a2 a3) (spec_OrbitWord.f (k + 1) a0 a1 a2 a3) := by
  intro a0 a1 a2 a3 k
  have ih0 := spec_OrbitWord.mono_l k
  unfold spec_OrbitWord.f
  repeat' first|exact ih0 _ _ _ _ _|exact spec_SurfaceOk.mono _ _ _|exact spec_l03Canon.mono _ _ _|exact spec_l06Find.mono _ _ _ _|exact spec_l06Orbit.mono _ _ _|exact lo_|refine LeO.ite ?_ ?_|refine LeO.bind ?_ (fun _ => ?_)
set_option maxHeartbeats 8000000 in
set_option maxRecDepth 100000 in
theorem spec_OrbitWord.calls (k : Nat) (A0_0 : Option Addr) (c0_0 : Nat) (l0_0 : List Int) (A0_1 : Option Addr) (c0_1 : Nat) (l0_1 : List Int) (A1_0 : Option Addr) (c1_0 : Nat) (l1_0 : List Int) (A1_1 : Option Addr) (c1_1 : Nat) (l1_1 : List Int) (r1 : ByteArray) (r2 : Bool) (w : World) (hr0_0 : Kd.C (Kd.int .i64) w A0_0 l0_0.length l0_0) (hc0_0 : l0_0.length ≤ c0_0) (hr0_1 : Kd.C (Kd.int .i64) w A0_1 l0_1.length l0_1) (hc0_1 : l0_1.length ≤ c0_1) (hr1_0 : Kd.C (Kd.int .i64) w A1_0 l1_0.length l1_0) (hc1_0 : l1_0.length ≤ c1_0) (hr1_1 : Kd.C (Kd.int .i64) w A1_1 l1_1.length l1_1) (hc1_1 : l1_1.length ≤ c1_1) (h : spec_OrbitWord.f k l0_0 l0_1 l1_0 l1_1 = some (r1, r2)) :
    Calls Try.prog 36 #[.agg #[.slice A0_0 l0_0.length c0_0, .slice A0_1 l0_1.length c0_1], .agg #[.slice A1_0 l1_0.length c1_0, .slice A1_1 l1_1.length c1_1]] w fun e w' => e = .returned (.tuple #[.string r1, .bool r2]) ∧ Below w.heap.size w w' := by
  have hu25 := Try.underlying25
  have HR0_0 := Aside0.mk hr0_0
  have HC0_0 := Aside0.mk hc0_0
  clear hr0_0 hc0_0
  have HR0_1 := Aside0.mk hr0_1
  have HC0_1 := Aside0.mk hc0_1
  clear hr0_1 hc0_1
  have HR1_0 := Aside0.mk hr1_0
  have HC1_0 := Aside0.mk hc1_0
  clear hr1_0 hc1_0
  have HR1_1 := Aside0.mk hr1_1
  have HC1_1 := Aside0.mk hc1_1
  clear hr1_1 hc1_1
  have HB := Aside0.mk (Below.refl w.heap.size w)
  have H := h
  unfold spec_OrbitWord.f at H
  clear h
  have HC3 := Aside0.mk H
  clear H
  go_enter Try.func36, Try.ntmps36
  go_upto_region 1 with (first | ((with_reducible refine gate_dst (N := 2) rfl ?_); (try (refine gate_guard (by rfl) ?_; dsimp only)); refine bx_ 2 #[.slice A0_0 l0_0.length c0_0, .slice A0_1 l0_1.length c0_1] 25 ?_; intro gb1010 hg w4 hbox hb; have BK1010 := Aside0.mk hbox; have GW1010 := gw_ w hg; have GE1010 := GW1010; replace HB := b1_ hb; clear hb hbox hg) | ((with_reducible refine gate_dst (N := 3) rfl ?_); (try (refine gate_guard (by rfl) ?_; dsimp only)); refine bx_ 3 #[.slice A1_0 l1_0.length c1_0, .slice A1_1 l1_1.length c1_1] 25 ?_; intro gb1011 hg w5 hbox hb; have BK1011 := Aside0.mk hbox; have GW1011 := gw_ w hg; have GE1011 := GW1011; replace HB := b1_ hb; have NB1010_1011 := gN_ BK1010 hg; have NB1011_1010 := gP_ BK1010 hg; replace BK1010 := bb_ BK1010 hb; clear hb hbox hg))
  (try simp only [Act.put, List.setIfInBounds_toArray, List.set_cons_zero, List.set_cons_succ])
  go_cut [17] (fun v17 wc => ∃ (kq : Nat) (x17_2 : Bool), v17 = .bool x17_2 ∧ Aside0 (spec_OrbitWord.j0 kq x17_2 l0_0 l0_1 l1_0 l1_1 = some (r1, r2)) ∧ Aside0 (kq ≤ k) ∧ Aside0 (wc.heap[gb1010]? = some (.cells #[(.slice A0_0 l0_0.length c0_0), (.slice A0_1 l0_1.length c0_1)] 25 (0, 0))) ∧ Aside0 (wc.heap[gb1011]? = some (.cells #[(.slice A1_0 l1_0.length c1_0), (.slice A1_1 l1_1.length c1_1)] 25 (0, 0))) ∧ Aside0 (Below w.heap.size w wc))
  case first =>
    have H := HC3.out
    clear HC3
    obtain ⟨t1012, A6, H⟩ := bi_ H
    by_cases c7 : t1012 = true
    · subst c7
      rw [if_pos rfl] at H
      obtain ⟨t1013, A8, H⟩ := bi_ H
      have H' := Aside0.mk H
      clear H
      have hnb9 := NB1010_1011.out
      have hnc9 := NB1011_1010.out
      obtain ⟨hcz10_0, hcz10_1, hfz10_0, hfz10_1⟩ := c2_ BK1010
      go_wp2_with (first | ((with_reducible refine gate_callee (f := 80) rfl ?_); refine gL_ (some 11) Try.func80 #[.agg #[.slice A0_0 l0_0.length c0_0, .slice A0_1 l0_1.length c0_1]] rfl qa_ ?_; (with_reducible refine (spec_SurfaceOk.calls k _ _ l0_0 _ _ l0_1 true _ (cb_ HR0_0) HC0_0.out (cb_ HR0_1) HC0_1.out A6.out).mono ?_); rintro e w11 ⟨rfl, hb⟩; refine ⟨_, rfl, ?_⟩; replace BK1010 := bb_ BK1010 hb; replace BK1011 := bb_ BK1011 hb; replace HB := b1_ hb; clear hb; obtain ⟨hcz12_0, hcz12_1, hfz12_0, hfz12_1⟩ := c2_ BK1011) | (go_at_call 80; (with_reducible refine (spec_SurfaceOk.calls k _ _ l1_0 _ _ l1_1 t1013 _ (cb_ HR1_0) HC1_0.out (cb_ HR1_1) HC1_1.out A8.out).mono ?_); rintro e w13 ⟨rfl, hb⟩; replace BK1010 := bb_ BK1010 hb; replace BK1011 := bb_ BK1011 hb; replace HB := b1_ hb; clear hb))
      go_meet
      case rel => exact ⟨_, (!t1013), qc_, H', ⟨qd_⟩, ⟨(kk_ BK1010)⟩, ⟨(kk_ BK1011)⟩, ⟨hB_⟩⟩
    · replace c7 := Bool.eq_false_iff.mpr c7
      subst c7
      have H1 : (spec_OrbitWord.j0 k true l0_0 l0_1 l1_0 l1_1) = some (r1, r2) := by rw [if_neg (show ¬ (false = true) by decide)] at H; exact H
      clear H
      have H := H1
      clear H1
      have H' := Aside0.mk H
      clear H
      have hnb14 := NB1010_1011.out
      have hnc14 := NB1011_1010.out
      obtain ⟨hcz15_0, hcz15_1, hfz15_0, hfz15_1⟩ := c2_ BK1010
      go_wp2_with (first | ((with_reducible refine gate_callee (f := 80) rfl ?_); refine gL_ (some 11) Try.func80 #[.agg #[.slice A0_0 l0_0.length c0_0, .slice A0_1 l0_1.length c0_1]] rfl qa_ ?_; (with_reducible refine (spec_SurfaceOk.calls k _ _ l0_0 _ _ l0_1 false _ (cb_ HR0_0) HC0_0.out (cb_ HR0_1) HC0_1.out A6.out).mono ?_); rintro e w16 ⟨rfl, hb⟩; refine ⟨_, rfl, ?_⟩; replace BK1010 := bb_ BK1010 hb; replace BK1011 := bb_ BK1011 hb; replace HB := b1_ hb; clear hb))
      go_meet
      case rel => exact ⟨_, (true), qc_, H', ⟨qd_⟩, ⟨(kk_ BK1010)⟩, ⟨(kk_ BK1011)⟩, ⟨hB_⟩⟩
  case rest =>
    clear HC3
    obtain ⟨kq, x17_2, rfl, HA, HJ2, BK1010, BK1011, HB⟩ := hcut
    cases kq with
    | zero => exact absurd HA.out (by simp [spec_OrbitWord.j0])
    | succ kj2 =>
      have H := HA.out
      clear HA
      simp only [spec_OrbitWord.j0] at H
      by_cases c17 : x17_2 = true
      · subst c17
        rw [if_pos rfl] at H
        simp only [Option.some.injEq, Prod.mk.injEq] at H
        obtain ⟨rfl, rfl⟩ := H
        go_wp2
        go_ret2
        exact ⟨qb_, hB_⟩
      · replace c17 := Bool.eq_false_iff.mpr c17
        subst c17
        have H1 : ((spec_l06Orbit.f kj2 l0_0 l0_1).bind fun bt1014 => ((spec_l03Canon.f kj2 l1_0 l1_1).bind fun bt1021 => ((spec_l06Find.f kj2 bt1014.1 bt1021.1 bt1021.2).bind fun t1027 => (if bt1014.2.2 = true then (if t1027 < 0 then (some ((⟨#[]⟩ : ByteArray), false)) else (if 0 ≤ t1027 then (if t1027 < (bt1014.2.1.length : Int) then (if ((rdOf ByteArray.empty bt1014.2.1 t1027).size : Int) > 40 then (some ((⟨#[]⟩ : ByteArray), false)) else (some (rdOf ByteArray.empty bt1014.2.1 t1027, true))) else (none)) else (none))) else (some ((⟨#[]⟩ : ByteArray), false)))))) = some (r1, r2) := by rw [if_neg (show ¬ (false = true) by decide)] at H; exact H
        clear H
        have H := H1
        clear H1
        obtain ⟨⟨t1014, t1017, t1020⟩, A18, H⟩ := bi_ H
        try dsimp only at H
        obtain ⟨⟨t1021, t1024⟩, A19, H⟩ := bi_ H
        try dsimp only at H
        obtain ⟨t1027, A20, H⟩ := bi_ H
        by_cases c21 : t1020 = true
        · subst c21
          rw [if_pos rfl] at H
          by_cases c22 : t1027 < 0
          · rw [if_pos c22] at H
            have c22b0 := decide_eq_true c22
            clear c22
            simp only [Option.some.injEq, Prod.mk.injEq] at H
            obtain ⟨rfl, rfl⟩ := H
            have hnb23 := NB1010_1011.out
            have hnc23 := NB1011_1010.out
            obtain ⟨hcz24_0, hcz24_1, hfz24_0, hfz24_1⟩ := c2_ BK1010
            go_wp2_with (first | ((with_reducible refine gate_callee (f := 84) rfl ?_); refine gL_ (some 20) Try.func84 #[.agg #[.slice A0_0 l0_0.length c0_0, .slice A0_1 l0_1.length c0_1]] rfl qa_ ?_; (with_reducible refine (spec_l06Orbit.calls kj2 _ _ l0_0 _ _ l0_1 t1014 t1017 true _ (cb_ HR0_0) HC0_0.out (cb_ HR0_1) HC0_1.out A18.out).mono ?_); rintro e w25 ⟨v1015, v1018, rfl, ho0, ho1, hb⟩; refine ⟨_, rfl, ?_⟩; have HO1016 := Aside0.mk (Kd.N_lower (Kd.N_mono (ok' := fun k_ => some k_ ≠ (v1018 : Value).ownBlock ∧ k_ ≠ gb1010 ∧ k_ ≠ gb1011) ho0 (fun k_ hk_ => ⟨hk_.2, (Kd.freshB (kk_ BK1010) k_ hk_.1), (Kd.freshB (kk_ BK1011) k_ hk_.1)⟩)) (below_size hB_)); have HO1019 := Aside0.mk (Kd.R_lower (Kd.R_mono (ok' := fun k_ => True) ho1 (fun _ hk_ => trivial)) (below_size hB_)); replace BK1010 := bb_ BK1010 hb; replace BK1011 := bb_ BK1011 hb; replace HB := b1_ hb; clear hb ho0 ho1; obtain ⟨hcz26_0, hcz26_1, hfz26_0, hfz26_1⟩ := c2_ BK1011) | ((with_reducible refine gate_callee (f := 82) rfl ?_); refine gL_ (some 26) Try.func82 #[.agg #[.slice A1_0 l1_0.length c1_0, .slice A1_1 l1_1.length c1_1]] rfl qa_ ?_; (with_reducible refine (spec_l03Canon.calls kj2 _ _ l1_0 _ _ l1_1 t1021 t1024 _ (cb_ HR1_0) HC1_0.out (cb_ HR1_1) HC1_1.out A19.out).mono ?_); rintro e w27 ⟨v1022, v1025, rfl, ho0, ho1, hb⟩; refine ⟨_, rfl, ?_⟩; replace HO1016 := Aside0.mk (Kd.N_mono (Kd.N_told (Kd.N_told (Kd.N_old (by (with_reducible repeat (first | apply Kd.N_alloc | apply Kd.N_drewN | apply Kd.N_drew)); exact HO1016.out) hb) (Kd.R_base ho0)) (Kd.R_base ho1)) (fun _ h_ => h_.1)); replace HO1019 := rb_ HO1019 hb; have HO1023 := rl_ w ho0; have HO1026 := rl_ w ho1; replace BK1010 := bb_ BK1010 hb; replace BK1011 := bb_ BK1011 hb; replace HB := b1_ hb; clear hb ho0 ho1; obtain ⟨Ao28, co28, eo28⟩ := Kd.N_slice HO1016.out; subst eo28; obtain ⟨Ao29, co29, eo29⟩ := Kd.R_slice HO1023.out; subst eo29; obtain ⟨Ao30, co30, eo30⟩ := Kd.R_slice HO1026.out; subst eo30) | ((with_reducible refine gate_callee (f := 81) rfl ?_); refine gL_ (some 27) Try.func81 #[.slice Ao28 t1014.length co28, .agg #[.slice Ao29 t1021.length co29, .slice Ao30 t1024.length co30]] rfl qa_ ?_; (with_reducible refine (spec_l06Find.calls kj2 _ _ t1014 _ _ t1021 _ _ t1024 t1027 _ (cw_ ((Kd.N_reads' HO1016.out).2.2)) ((Kd.N_reads' HO1016.out).2.1) (cr_ HO1023) ((Kd.R_reads' HO1023.out).2.1) (cr_ HO1026) ((Kd.R_reads' HO1026.out).2.1) A20.out).mono ?_); rintro e w31 ⟨rfl, hb⟩; refine ⟨_, rfl, ?_⟩; replace HO1016 := Aside0.mk (Kd.N_below (by (with_reducible repeat (first | apply Kd.N_alloc | apply Kd.N_drewN | apply Kd.N_drew)); exact HO1016.out) hb); replace HO1019 := rb_ HO1019 hb; replace HO1023 := rb_ HO1023 hb; replace HO1026 := rb_ HO1026 hb; replace BK1010 := bb_ BK1010 hb; replace BK1011 := bb_ BK1011 hb; replace HB := b1_ hb; clear hb))
            go_ret2
            exact ⟨qb_, hB_⟩
          · rw [if_neg c22] at H
            have c22b0 := decide_eq_false c22
            clear c22
            have c32 := cp_ H
            replace H := ca_ H
            have c32b0 := decide_eq_true c32
            clear c32
            have c33 := cp_ H
            replace H := ca_ H
            have c33b0 := decide_eq_true c33
            clear c33
            by_cases c34 : ((rdOf ByteArray.empty t1017 t1027).size : Int) > 40
            · rw [if_pos c34] at H
              have c34b0 : decide (40 < ((rdOf ByteArray.empty t1017 t1027).size : Int)) = true := decide_eq_true c34
              have c34b1 : decide (40 < (rdOf ByteArray.empty t1017 t1027).size) = true := decide_eq_true (by omega)
              clear c34
              simp only [Option.some.injEq, Prod.mk.injEq] at H
              obtain ⟨rfl, rfl⟩ := H
              have hnb35 := NB1010_1011.out
              have hnc35 := NB1011_1010.out
              obtain ⟨hcz36_0, hcz36_1, hfz36_0, hfz36_1⟩ := c2_ BK1010
              go_wp2_with (first | ((with_reducible refine gate_callee (f := 84) rfl ?_); refine gL_ (some 20) Try.func84 #[.agg #[.slice A0_0 l0_0.length c0_0, .slice A0_1 l0_1.length c0_1]] rfl qa_ ?_; (with_reducible refine (spec_l06Orbit.calls kj2 _ _ l0_0 _ _ l0_1 t1014 t1017 true _ (cb_ HR0_0) HC0_0.out (cb_ HR0_1) HC0_1.out A18.out).mono ?_); rintro e w37 ⟨v1015, v1018, rfl, ho0, ho1, hb⟩; refine ⟨_, rfl, ?_⟩; have HO1016 := Aside0.mk (Kd.N_lower (Kd.N_mono (ok' := fun k_ => some k_ ≠ (v1018 : Value).ownBlock ∧ k_ ≠ gb1010 ∧ k_ ≠ gb1011) ho0 (fun k_ hk_ => ⟨hk_.2, (Kd.freshB (kk_ BK1010) k_ hk_.1), (Kd.freshB (kk_ BK1011) k_ hk_.1)⟩)) (below_size hB_)); have HO1019 := Aside0.mk (Kd.R_lower (Kd.R_mono (ok' := fun k_ => True) ho1 (fun _ hk_ => trivial)) (below_size hB_)); replace BK1010 := bb_ BK1010 hb; replace BK1011 := bb_ BK1011 hb; replace HB := b1_ hb; clear hb ho0 ho1; obtain ⟨hcz38_0, hcz38_1, hfz38_0, hfz38_1⟩ := c2_ BK1011) | ((with_reducible refine gate_callee (f := 82) rfl ?_); refine gL_ (some 26) Try.func82 #[.agg #[.slice A1_0 l1_0.length c1_0, .slice A1_1 l1_1.length c1_1]] rfl qa_ ?_; (with_reducible refine (spec_l03Canon.calls kj2 _ _ l1_0 _ _ l1_1 t1021 t1024 _ (cb_ HR1_0) HC1_0.out (cb_ HR1_1) HC1_1.out A19.out).mono ?_); rintro e w39 ⟨v1022, v1025, rfl, ho0, ho1, hb⟩; refine ⟨_, rfl, ?_⟩; replace HO1016 := Aside0.mk (Kd.N_mono (Kd.N_told (Kd.N_told (Kd.N_old (by (with_reducible repeat (first | apply Kd.N_alloc | apply Kd.N_drewN | apply Kd.N_drew)); exact HO1016.out) hb) (Kd.R_base ho0)) (Kd.R_base ho1)) (fun _ h_ => h_.1)); replace HO1019 := rb_ HO1019 hb; have HO1023 := rl_ w ho0; have HO1026 := rl_ w ho1; replace BK1010 := bb_ BK1010 hb; replace BK1011 := bb_ BK1011 hb; replace HB := b1_ hb; clear hb ho0 ho1; obtain ⟨Ao40, co40, eo40⟩ := Kd.N_slice HO1016.out; subst eo40; obtain ⟨Ao41, co41, eo41⟩ := Kd.R_slice HO1023.out; subst eo41; obtain ⟨Ao42, co42, eo42⟩ := Kd.R_slice HO1026.out; subst eo42) | ((with_reducible refine gate_callee (f := 81) rfl ?_); refine gL_ (some 27) Try.func81 #[.slice Ao40 t1014.length co40, .agg #[.slice Ao41 t1021.length co41, .slice Ao42 t1024.length co42]] rfl qa_ ?_; (with_reducible refine (spec_l06Find.calls kj2 _ _ t1014 _ _ t1021 _ _ t1024 t1027 _ (cw_ ((Kd.N_reads' HO1016.out).2.2)) ((Kd.N_reads' HO1016.out).2.1) (cr_ HO1023) ((Kd.R_reads' HO1023.out).2.1) (cr_ HO1026) ((Kd.R_reads' HO1026.out).2.1) A20.out).mono ?_); rintro e w43 ⟨rfl, hb⟩; refine ⟨_, rfl, ?_⟩; replace HO1016 := Aside0.mk (Kd.N_below (by (with_reducible repeat (first | apply Kd.N_alloc | apply Kd.N_drewN | apply Kd.N_drew)); exact HO1016.out) hb); replace HO1019 := rb_ HO1019 hb; replace HO1023 := rb_ HO1023 hb; replace HO1026 := rb_ HO1026 hb; replace BK1010 := bb_ BK1010 hb; replace BK1011 := bb_ BK1011 hb; replace HB := b1_ hb; clear hb; obtain ⟨Ao44, co44, eo44⟩ := Kd.R_slice HO1019.out; subst eo44; have p1028 : 0 ≤ (t1027 : Int) := of_decide_eq_true qe_; have q1028 : t1027 < (t1017.length : Int) := of_decide_eq_true qe_; obtain ⟨ad1028, e1028, hx1028_0⟩ := Kd.at_string (Kd.R_reads' HO1019.out).2.2 t1027 p1028 q1028; cases e1028; replace p1028 := eq_true p1028; replace q1028 := eq_true q1028))
              go_ret2
              exact ⟨qb_, hB_⟩
            · rw [if_neg c34] at H
              have c34b0 : decide (40 < ((rdOf ByteArray.empty t1017 t1027).size : Int)) = false := decide_eq_false c34
              have c34b1 : decide (40 < (rdOf ByteArray.empty t1017 t1027).size) = false := decide_eq_false (by omega)
              clear c34
              simp only [Option.some.injEq, Prod.mk.injEq] at H
              obtain ⟨rfl, rfl⟩ := H
              have hnb45 := NB1010_1011.out
              have hnc45 := NB1011_1010.out
              obtain ⟨hcz46_0, hcz46_1, hfz46_0, hfz46_1⟩ := c2_ BK1010
              go_wp2_with (first | ((with_reducible refine gate_callee (f := 84) rfl ?_); refine gL_ (some 20) Try.func84 #[.agg #[.slice A0_0 l0_0.length c0_0, .slice A0_1 l0_1.length c0_1]] rfl qa_ ?_; (with_reducible refine (spec_l06Orbit.calls kj2 _ _ l0_0 _ _ l0_1 t1014 t1017 true _ (cb_ HR0_0) HC0_0.out (cb_ HR0_1) HC0_1.out A18.out).mono ?_); rintro e w47 ⟨v1015, v1018, rfl, ho0, ho1, hb⟩; refine ⟨_, rfl, ?_⟩; have HO1016 := Aside0.mk (Kd.N_lower (Kd.N_mono (ok' := fun k_ => some k_ ≠ (v1018 : Value).ownBlock ∧ k_ ≠ gb1010 ∧ k_ ≠ gb1011) ho0 (fun k_ hk_ => ⟨hk_.2, (Kd.freshB (kk_ BK1010) k_ hk_.1), (Kd.freshB (kk_ BK1011) k_ hk_.1)⟩)) (below_size hB_)); have HO1019 := Aside0.mk (Kd.R_lower (Kd.R_mono (ok' := fun k_ => True) ho1 (fun _ hk_ => trivial)) (below_size hB_)); replace BK1010 := bb_ BK1010 hb; replace BK1011 := bb_ BK1011 hb; replace HB := b1_ hb; clear hb ho0 ho1; obtain ⟨hcz48_0, hcz48_1, hfz48_0, hfz48_1⟩ := c2_ BK1011) | ((with_reducible refine gate_callee (f := 82) rfl ?_); refine gL_ (some 26) Try.func82 #[.agg #[.slice A1_0 l1_0.length c1_0, .slice A1_1 l1_1.length c1_1]] rfl qa_ ?_; (with_reducible refine (spec_l03Canon.calls kj2 _ _ l1_0 _ _ l1_1 t1021 t1024 _ (cb_ HR1_0) HC1_0.out (cb_ HR1_1) HC1_1.out A19.out).mono ?_); rintro e w49 ⟨v1022, v1025, rfl, ho0, ho1, hb⟩; refine ⟨_, rfl, ?_⟩; replace HO1016 := Aside0.mk (Kd.N_mono (Kd.N_told (Kd.N_told (Kd.N_old (by (with_reducible repeat (first | apply Kd.N_alloc | apply Kd.N_drewN | apply Kd.N_drew)); exact HO1016.out) hb) (Kd.R_base ho0)) (Kd.R_base ho1)) (fun _ h_ => h_.1)); replace HO1019 := rb_ HO1019 hb; have HO1023 := rl_ w ho0; have HO1026 := rl_ w ho1; replace BK1010 := bb_ BK1010 hb; replace BK1011 := bb_ BK1011 hb; replace HB := b1_ hb; clear hb ho0 ho1; obtain ⟨Ao50, co50, eo50⟩ := Kd.N_slice HO1016.out; subst eo50; obtain ⟨Ao51, co51, eo51⟩ := Kd.R_slice HO1023.out; subst eo51; obtain ⟨Ao52, co52, eo52⟩ := Kd.R_slice HO1026.out; subst eo52) | ((with_reducible refine gate_callee (f := 81) rfl ?_); refine gL_ (some 27) Try.func81 #[.slice Ao50 t1014.length co50, .agg #[.slice Ao51 t1021.length co51, .slice Ao52 t1024.length co52]] rfl qa_ ?_; (with_reducible refine (spec_l06Find.calls kj2 _ _ t1014 _ _ t1021 _ _ t1024 t1027 _ (cw_ ((Kd.N_reads' HO1016.out).2.2)) ((Kd.N_reads' HO1016.out).2.1) (cr_ HO1023) ((Kd.R_reads' HO1023.out).2.1) (cr_ HO1026) ((Kd.R_reads' HO1026.out).2.1) A20.out).mono ?_); rintro e w53 ⟨rfl, hb⟩; refine ⟨_, rfl, ?_⟩; replace HO1016 := Aside0.mk (Kd.N_below (by (with_reducible repeat (first | apply Kd.N_alloc | apply Kd.N_drewN | apply Kd.N_drew)); exact HO1016.out) hb); replace HO1019 := rb_ HO1019 hb; replace HO1023 := rb_ HO1023 hb; replace HO1026 := rb_ HO1026 hb; replace BK1010 := bb_ BK1010 hb; replace BK1011 := bb_ BK1011 hb; replace HB := b1_ hb; clear hb; obtain ⟨Ao54, co54, eo54⟩ := Kd.R_slice HO1019.out; subst eo54; have p1028 : 0 ≤ (t1027 : Int) := of_decide_eq_true qe_; have q1028 : t1027 < (t1017.length : Int) := of_decide_eq_true qe_; obtain ⟨ad1028, e1028, hx1028_0⟩ := Kd.at_string (Kd.R_reads' HO1019.out).2.2 t1027 p1028 q1028; cases e1028; replace p1028 := eq_true p1028; replace q1028 := eq_true q1028; have p1029 : 0 ≤ (t1027 : Int) := of_decide_eq_true qe_; have q1029 : t1027 < (t1017.length : Int) := of_decide_eq_true qe_; obtain ⟨ad1029, e1029, hx1029_0⟩ := Kd.at_string (Kd.R_reads' HO1019.out).2.2 t1027 p1029 q1029; obtain rfl : ad1028 = ad1029 := (by injection e1029); replace p1029 := eq_true p1029; replace q1029 := eq_true q1029))
              go_ret2
              exact ⟨qb_, hB_⟩
        · replace c21 := Bool.eq_false_iff.mpr c21
          subst c21
          have H1 : (some ((⟨#[]⟩ : ByteArray), false)) = some (r1, r2) := by rw [if_neg (show ¬ (false = true) by decide)] at H; exact H
          clear H
          have H := H1
          clear H1
          simp only [Option.some.injEq, Prod.mk.injEq] at H
          obtain ⟨rfl, rfl⟩ := H
          have hnb55 := NB1010_1011.out
          have hnc55 := NB1011_1010.out
          obtain ⟨hcz56_0, hcz56_1, hfz56_0, hfz56_1⟩ := c2_ BK1010
          go_wp2_with (first | ((with_reducible refine gate_callee (f := 84) rfl ?_); refine gL_ (some 20) Try.func84 #[.agg #[.slice A0_0 l0_0.length c0_0, .slice A0_1 l0_1.length c0_1]] rfl qa_ ?_; (with_reducible refine (spec_l06Orbit.calls kj2 _ _ l0_0 _ _ l0_1 t1014 t1017 false _ (cb_ HR0_0) HC0_0.out (cb_ HR0_1) HC0_1.out A18.out).mono ?_); rintro e w57 ⟨v1015, v1018, rfl, ho0, ho1, hb⟩; refine ⟨_, rfl, ?_⟩; have HO1016 := Aside0.mk (Kd.N_lower (Kd.N_mono (ok' := fun k_ => some k_ ≠ (v1018 : Value).ownBlock ∧ k_ ≠ gb1010 ∧ k_ ≠ gb1011) ho0 (fun k_ hk_ => ⟨hk_.2, (Kd.freshB (kk_ BK1010) k_ hk_.1), (Kd.freshB (kk_ BK1011) k_ hk_.1)⟩)) (below_size hB_)); have HO1019 := Aside0.mk (Kd.R_lower (Kd.R_mono (ok' := fun k_ => True) ho1 (fun _ hk_ => trivial)) (below_size hB_)); replace BK1010 := bb_ BK1010 hb; replace BK1011 := bb_ BK1011 hb; replace HB := b1_ hb; clear hb ho0 ho1; obtain ⟨hcz58_0, hcz58_1, hfz58_0, hfz58_1⟩ := c2_ BK1011) | ((with_reducible refine gate_callee (f := 82) rfl ?_); refine gL_ (some 26) Try.func82 #[.agg #[.slice A1_0 l1_0.length c1_0, .slice A1_1 l1_1.length c1_1]] rfl qa_ ?_; (with_reducible refine (spec_l03Canon.calls kj2 _ _ l1_0 _ _ l1_1 t1021 t1024 _ (cb_ HR1_0) HC1_0.out (cb_ HR1_1) HC1_1.out A19.out).mono ?_); rintro e w59 ⟨v1022, v1025, rfl, ho0, ho1, hb⟩; refine ⟨_, rfl, ?_⟩; replace HO1016 := Aside0.mk (Kd.N_mono (Kd.N_told (Kd.N_told (Kd.N_old (by (with_reducible repeat (first | apply Kd.N_alloc | apply Kd.N_drewN | apply Kd.N_drew)); exact HO1016.out) hb) (Kd.R_base ho0)) (Kd.R_base ho1)) (fun _ h_ => h_.1)); replace HO1019 := rb_ HO1019 hb; have HO1023 := rl_ w ho0; have HO1026 := rl_ w ho1; replace BK1010 := bb_ BK1010 hb; replace BK1011 := bb_ BK1011 hb; replace HB := b1_ hb; clear hb ho0 ho1; obtain ⟨Ao60, co60, eo60⟩ := Kd.N_slice HO1016.out; subst eo60; obtain ⟨Ao61, co61, eo61⟩ := Kd.R_slice HO1023.out; subst eo61; obtain ⟨Ao62, co62, eo62⟩ := Kd.R_slice HO1026.out; subst eo62) | ((with_reducible refine gate_callee (f := 81) rfl ?_); refine gL_ (some 27) Try.func81 #[.slice Ao60 t1014.length co60, .agg #[.slice Ao61 t1021.length co61, .slice Ao62 t1024.length co62]] rfl qa_ ?_; (with_reducible refine (spec_l06Find.calls kj2 _ _ t1014 _ _ t1021 _ _ t1024 t1027 _ (cw_ ((Kd.N_reads' HO1016.out).2.2)) ((Kd.N_reads' HO1016.out).2.1) (cr_ HO1023) ((Kd.R_reads' HO1023.out).2.1) (cr_ HO1026) ((Kd.R_reads' HO1026.out).2.1) A20.out).mono ?_); rintro e w63 ⟨rfl, hb⟩; refine ⟨_, rfl, ?_⟩; replace HO1016 := Aside0.mk (Kd.N_below (by (with_reducible repeat (first | apply Kd.N_alloc | apply Kd.N_drewN | apply Kd.N_drew)); exact HO1016.out) hb); replace HO1019 := rb_ HO1019 hb; replace HO1023 := rb_ HO1023 hb; replace HO1026 := rb_ HO1026 hb; replace BK1010 := bb_ BK1010 hb; replace BK1011 := bb_ BK1011 hb; replace HB := b1_ hb; clear hb))
          go_ret2
          exact ⟨qb_, hB_⟩
end Go.Proofs.Ytcggfjpnfodbaaa.A
end
section
namespace Go.Proofs.Ytcggfjpnfodbaaa.A
open Go.RowKit Go.Proofs.YtcggfjpnfodbaaaW.PrintWords Go.Proofs.YtcggfjpnfodbaaaW.PrintLast Go.Proofs.YtcggfjpnfodbaaaW.PrintMore Go.Proofs.Ytcggfjpnfodbaaa.M
set_option linter.unusedVariables false
set_option linter.unusedSimpArgs false
def laws_FnExactOrbitWord.F (k : Nat) (l0_0 : List Int) (l0_1 : List Int) (l1_0 : List Int) (l1_1 : List Int) : Prop := ∃ s0 : Int, laws_szSurface.f l0_0 l0_1 1048576 = some s0 ∧ (s0 < 0 ∨ (¬ s0 < 0 ∧ (∃ s1 : Int, laws_szSurface.f l1_0 l1_1 s0 = some s1 ∧ (s1 < 0 ∨ (¬ s1 < 0 ∧ (∃ (r0 : ByteArray) (r1 : Bool), laws_toSurface.f k l0_0 l0_1 = some (l0_0, l0_1) ∧ laws_eqSurface.f k l0_0 l0_1 l0_0 l0_1 = some true ∧ laws_toSurface.f k l1_0 l1_1 = some (l1_0, l1_1) ∧ laws_eqSurface.f k l1_0 l1_1 l1_0 l1_1 = some true ∧ spec_OrbitWord.f k l0_0 l0_1 l1_0 l1_1 = some (r0, r1) ∧ impl_OrbitWord.f k l0_0 l0_1 l1_0 l1_1 = some (r0, r1)))))))
set_option maxHeartbeats 8000000 in
set_option maxRecDepth 100000 in
theorem laws_FnExactOrbitWord.calls (k : Nat) (A0_0 : Option Addr) (c0_0 : Nat) (l0_0 : List Int) (A0_1 : Option Addr) (c0_1 : Nat) (l0_1 : List Int) (A1_0 : Option Addr) (c1_0 : Nat) (l1_0 : List Int) (A1_1 : Option Addr) (c1_1 : Nat) (l1_1 : List Int) (w : World) (hr0_0 : Kd.C (Kd.int .i64) w A0_0 l0_0.length l0_0) (hc0_0 : l0_0.length ≤ c0_0) (hr0_1 : Kd.C (Kd.int .i64) w A0_1 l0_1.length l0_1) (hc0_1 : l0_1.length ≤ c0_1) (hr1_0 : Kd.C (Kd.int .i64) w A1_0 l1_0.length l1_0) (hc1_0 : l1_0.length ≤ c1_0) (hr1_1 : Kd.C (Kd.int .i64) w A1_1 l1_1.length l1_1) (hc1_1 : l1_1.length ≤ c1_1) (h : laws_FnExactOrbitWord.F k l0_0 l0_1 l1_0 l1_1) :
    Calls Try.prog 7 #[.agg #[.slice A0_0 l0_0.length c0_0, .slice A0_1 l0_1.length c0_1], .agg #[.slice A1_0 l1_0.length c1_0, .slice A1_1 l1_1.length c1_1]] w fun e w' => e = .returned (.bool true) ∧ Below w.heap.size w w' := by
  have hu25 := Try.underlying25
  have hu44 := Try.underlying44
  have HR0_0 := Aside0.mk hr0_0; have HC0_0 := Aside0.mk hc0_0; clear hr0_0 hc0_0
  have HR0_1 := Aside0.mk hr0_1; have HC0_1 := Aside0.mk hc0_1; clear hr0_1 hc0_1
  have HR1_0 := Aside0.mk hr1_0; have HC1_0 := Aside0.mk hc1_0; clear hr1_0 hc1_0
  have HR1_1 := Aside0.mk hr1_1; have HC1_1 := Aside0.mk hc1_1; clear hr1_1 hc1_1
  have HB := Aside0.mk (Below.refl w.heap.size w)
  unfold laws_FnExactOrbitWord.F at h
  obtain ⟨s0, FZ0, h⟩ := h
  replace FZ0 := Aside0.mk FZ0
  rcases h with hneg | ⟨hneg, h⟩
  · have hq0 : decide (s0 < 0) = true := decide_eq_true hneg
    go_enter Try.func7, Try.ntmps7
    go_upto_region 2 with (first | ((with_reducible refine gate_dst (N := 2) rfl ?_); refine bx_ 2 #[.slice A0_0 l0_0.length c0_0, .slice A0_1 l0_1.length c0_1] 44 ?_; intro gbp0 hg w1 hbox hb; have HBo := HB.out; have n_ := Aside0.mk (below_then HBo HBo.size hb); clear HB; have HB := n_; clear n_; have HSw1 := Aside0.mk hb.size; have BKp0 := Aside0.mk hbox; have GIp0 := Aside0.mk (show w.heap.size ≤ gbp0 ∧ gbp0 < w1.heap.size from ⟨by omega, blk_lt hbox⟩); have GEp0 := Aside0.mk (show w.heap.size ≤ gbp0 from by have := HBo.size; omega); clear hb hbox hg HBo; obtain ⟨hczp0_0, hczp0_1, hfzp0_0, hfzp0_1⟩ := c2_ BKp0) | ((with_reducible refine gate_dst (N := 3) rfl ?_); refine bx_ 3 #[.slice A1_0 l1_0.length c1_0, .slice A1_1 l1_1.length c1_1] 44 ?_; intro gbp1 hg w2 hbox hb; clear hczp0_0 hfzp0_0 hczp0_1 hfzp0_1; have HBo := HB.out; have n_ := Aside0.mk (blk_below BKp0.out hb); clear BKp0; have BKp0 := n_; clear n_; have n_ := Aside0.mk (below_then HBo HBo.size hb); clear HB; have HB := n_; clear n_; have HSw2 := Aside0.mk hb.size; have BKp1 := Aside0.mk hbox; have GIp1 := Aside0.mk (show w1.heap.size ≤ gbp1 ∧ gbp1 < w2.heap.size from ⟨by omega, blk_lt hbox⟩); have GEp1 := Aside0.mk (show w.heap.size ≤ gbp1 from by have := HBo.size; omega); clear hb hbox hg HBo; obtain ⟨hczp0_0, hczp0_1, hfzp0_0, hfzp0_1⟩ := c2_ BKp0; obtain ⟨hczp1_0, hczp1_1, hfzp1_0, hfzp1_1⟩ := c2_ BKp1))
    go_wp2_with (first | ((with_reducible refine gate_callee (f := 31) rfl ?_); refine goesL_ _ rfl rfl Try.func31 (by kernel_rfl) rfl #[.agg #[.slice A0_0 l0_0.length c0_0, .slice A0_1 l0_1.length c0_1], .int .i64 1048576] rfl (by (try simp only [List.map_toArray, List.map_cons, List.map_nil]); first | done | rfl) ?_; have HBo := HB.out; refine (laws_szSurface.calls A0_0 c0_0 l0_0 A0_1 c0_1 l0_1 1048576 s0 _ (Kd.C_below HR0_0.out HB.out) HC0_0.out (Kd.C_below HR0_1.out HB.out) HC0_1.out FZ0.out).mono ?_; rintro e w3 ⟨rfl, hb0⟩; refine ⟨_, rfl, ?_⟩; clear hczp0_0 hfzp0_0 hczp0_1 hfzp0_1 hczp1_0 hfzp1_0 hczp1_1 hfzp1_1; have n_ := Aside0.mk (blk_below BKp0.out hb0); clear BKp0; have BKp0 := n_; clear n_; have n_ := Aside0.mk (blk_below BKp1.out hb0); clear BKp1; have BKp1 := n_; clear n_; have n_ := Aside0.mk (below_then HBo HBo.size hb0); clear HB; have HB := n_; clear n_; have HSw3 := Aside0.mk hb0.size; clear hb0 HBo; obtain ⟨hczp0_0, hczp0_1, hfzp0_0, hfzp0_1⟩ := c2_ BKp0; obtain ⟨hczp1_0, hczp1_1, hfzp1_0, hfzp1_1⟩ := c2_ BKp1))
    go_ret
    exact ⟨rfl, HB.out⟩
  have hq0 : decide (s0 < 0) = false := decide_eq_false hneg
  clear hneg
  obtain ⟨s1, FZ1, h⟩ := h
  replace FZ1 := Aside0.mk FZ1
  rcases h with hneg | ⟨hneg, h⟩
  · have hq1 : decide (s1 < 0) = true := decide_eq_true hneg
    go_enter Try.func7, Try.ntmps7
    go_upto_region 2 with (first | ((with_reducible refine gate_dst (N := 2) rfl ?_); refine bx_ 2 #[.slice A0_0 l0_0.length c0_0, .slice A0_1 l0_1.length c0_1] 44 ?_; intro gbp0 hg w1 hbox hb; have HBo := HB.out; have n_ := Aside0.mk (below_then HBo HBo.size hb); clear HB; have HB := n_; clear n_; have HSw1 := Aside0.mk hb.size; have BKp0 := Aside0.mk hbox; have GIp0 := Aside0.mk (show w.heap.size ≤ gbp0 ∧ gbp0 < w1.heap.size from ⟨by omega, blk_lt hbox⟩); have GEp0 := Aside0.mk (show w.heap.size ≤ gbp0 from by have := HBo.size; omega); clear hb hbox hg HBo; obtain ⟨hczp0_0, hczp0_1, hfzp0_0, hfzp0_1⟩ := c2_ BKp0) | ((with_reducible refine gate_dst (N := 3) rfl ?_); refine bx_ 3 #[.slice A1_0 l1_0.length c1_0, .slice A1_1 l1_1.length c1_1] 44 ?_; intro gbp1 hg w2 hbox hb; clear hczp0_0 hfzp0_0 hczp0_1 hfzp0_1; have HBo := HB.out; have n_ := Aside0.mk (blk_below BKp0.out hb); clear BKp0; have BKp0 := n_; clear n_; have n_ := Aside0.mk (below_then HBo HBo.size hb); clear HB; have HB := n_; clear n_; have HSw2 := Aside0.mk hb.size; have BKp1 := Aside0.mk hbox; have GIp1 := Aside0.mk (show w1.heap.size ≤ gbp1 ∧ gbp1 < w2.heap.size from ⟨by omega, blk_lt hbox⟩); have GEp1 := Aside0.mk (show w.heap.size ≤ gbp1 from by have := HBo.size; omega); clear hb hbox hg HBo; obtain ⟨hczp0_0, hczp0_1, hfzp0_0, hfzp0_1⟩ := c2_ BKp0; obtain ⟨hczp1_0, hczp1_1, hfzp1_0, hfzp1_1⟩ := c2_ BKp1))
    go_upto_region 5 with (first | ((with_reducible refine gate_callee (f := 31) rfl ?_); refine goesL_ _ rfl rfl Try.func31 (by kernel_rfl) rfl #[.agg #[.slice A0_0 l0_0.length c0_0, .slice A0_1 l0_1.length c0_1], .int .i64 1048576] rfl (by (try simp only [List.map_toArray, List.map_cons, List.map_nil]); first | done | rfl) ?_; have HBo := HB.out; refine (laws_szSurface.calls A0_0 c0_0 l0_0 A0_1 c0_1 l0_1 1048576 s0 _ (Kd.C_below HR0_0.out HB.out) HC0_0.out (Kd.C_below HR0_1.out HB.out) HC0_1.out FZ0.out).mono ?_; rintro e w3 ⟨rfl, hb0⟩; refine ⟨_, rfl, ?_⟩; clear hczp0_0 hfzp0_0 hczp0_1 hfzp0_1 hczp1_0 hfzp1_0 hczp1_1 hfzp1_1; have n_ := Aside0.mk (blk_below BKp0.out hb0); clear BKp0; have BKp0 := n_; clear n_; have n_ := Aside0.mk (blk_below BKp1.out hb0); clear BKp1; have BKp1 := n_; clear n_; have n_ := Aside0.mk (below_then HBo HBo.size hb0); clear HB; have HB := n_; clear n_; have HSw3 := Aside0.mk hb0.size; clear hb0 HBo; obtain ⟨hczp0_0, hczp0_1, hfzp0_0, hfzp0_1⟩ := c2_ BKp0; obtain ⟨hczp1_0, hczp1_1, hfzp1_0, hfzp1_1⟩ := c2_ BKp1))
    go_wp2_with (first | ((with_reducible refine gate_callee (f := 31) rfl ?_); refine goesL_ _ rfl rfl Try.func31 (by kernel_rfl) rfl #[.agg #[.slice A1_0 l1_0.length c1_0, .slice A1_1 l1_1.length c1_1], .int .i64 s0] rfl (by (try simp only [List.map_toArray, List.map_cons, List.map_nil]); first | done | rfl) ?_; have HBo := HB.out; refine (laws_szSurface.calls A1_0 c1_0 l1_0 A1_1 c1_1 l1_1 s0 s1 _ (Kd.C_below HR1_0.out HB.out) HC1_0.out (Kd.C_below HR1_1.out HB.out) HC1_1.out FZ1.out).mono ?_; rintro e w4 ⟨rfl, hb0⟩; refine ⟨_, rfl, ?_⟩; clear hczp0_0 hfzp0_0 hczp0_1 hfzp0_1 hczp1_0 hfzp1_0 hczp1_1 hfzp1_1; have n_ := Aside0.mk (blk_below BKp0.out hb0); clear BKp0; have BKp0 := n_; clear n_; have n_ := Aside0.mk (blk_below BKp1.out hb0); clear BKp1; have BKp1 := n_; clear n_; have n_ := Aside0.mk (below_then HBo HBo.size hb0); clear HB; have HB := n_; clear n_; have HSw4 := Aside0.mk hb0.size; clear hb0 HBo; obtain ⟨hczp0_0, hczp0_1, hfzp0_0, hfzp0_1⟩ := c2_ BKp0; obtain ⟨hczp1_0, hczp1_1, hfzp1_0, hfzp1_1⟩ := c2_ BKp1))
    go_ret
    exact ⟨rfl, HB.out⟩
  have hq1 : decide (s1 < 0) = false := decide_eq_false hneg
  clear hneg
  obtain ⟨r0, r1, FS0, FE0, FS1, FE1, FW, FG⟩ := h
  replace FS0 := Aside0.mk FS0
  replace FE0 := Aside0.mk FE0
  replace FS1 := Aside0.mk FS1
  replace FE1 := Aside0.mk FE1
  replace FW := Aside0.mk FW
  replace FG := Aside0.mk FG
  go_enter Try.func7, Try.ntmps7
  go_upto_region 2 with (first | ((with_reducible refine gate_dst (N := 2) rfl ?_); refine bx_ 2 #[.slice A0_0 l0_0.length c0_0, .slice A0_1 l0_1.length c0_1] 44 ?_; intro gbp0 hg w1 hbox hb; have HBo := HB.out; have n_ := Aside0.mk (below_then HBo HBo.size hb); clear HB; have HB := n_; clear n_; have HSw1 := Aside0.mk hb.size; have BKp0 := Aside0.mk hbox; have GIp0 := Aside0.mk (show w.heap.size ≤ gbp0 ∧ gbp0 < w1.heap.size from ⟨by omega, blk_lt hbox⟩); have GEp0 := Aside0.mk (show w.heap.size ≤ gbp0 from by have := HBo.size; omega); clear hb hbox hg HBo; obtain ⟨hczp0_0, hczp0_1, hfzp0_0, hfzp0_1⟩ := c2_ BKp0) | ((with_reducible refine gate_dst (N := 3) rfl ?_); refine bx_ 3 #[.slice A1_0 l1_0.length c1_0, .slice A1_1 l1_1.length c1_1] 44 ?_; intro gbp1 hg w2 hbox hb; clear hczp0_0 hfzp0_0 hczp0_1 hfzp0_1; have HBo := HB.out; have n_ := Aside0.mk (blk_below BKp0.out hb); clear BKp0; have BKp0 := n_; clear n_; have n_ := Aside0.mk (below_then HBo HBo.size hb); clear HB; have HB := n_; clear n_; have HSw2 := Aside0.mk hb.size; have BKp1 := Aside0.mk hbox; have GIp1 := Aside0.mk (show w1.heap.size ≤ gbp1 ∧ gbp1 < w2.heap.size from ⟨by omega, blk_lt hbox⟩); have GEp1 := Aside0.mk (show w.heap.size ≤ gbp1 from by have := HBo.size; omega); clear hb hbox hg HBo; obtain ⟨hczp0_0, hczp0_1, hfzp0_0, hfzp0_1⟩ := c2_ BKp0; obtain ⟨hczp1_0, hczp1_1, hfzp1_0, hfzp1_1⟩ := c2_ BKp1))
  go_upto_region 5 with (first | ((with_reducible refine gate_callee (f := 31) rfl ?_); refine goesL_ _ rfl rfl Try.func31 (by kernel_rfl) rfl #[.agg #[.slice A0_0 l0_0.length c0_0, .slice A0_1 l0_1.length c0_1], .int .i64 1048576] rfl (by (try simp only [List.map_toArray, List.map_cons, List.map_nil]); first | done | rfl) ?_; have HBo := HB.out; refine (laws_szSurface.calls A0_0 c0_0 l0_0 A0_1 c0_1 l0_1 1048576 s0 _ (Kd.C_below HR0_0.out HB.out) HC0_0.out (Kd.C_below HR0_1.out HB.out) HC0_1.out FZ0.out).mono ?_; rintro e w3 ⟨rfl, hb0⟩; refine ⟨_, rfl, ?_⟩; clear hczp0_0 hfzp0_0 hczp0_1 hfzp0_1 hczp1_0 hfzp1_0 hczp1_1 hfzp1_1; have n_ := Aside0.mk (blk_below BKp0.out hb0); clear BKp0; have BKp0 := n_; clear n_; have n_ := Aside0.mk (blk_below BKp1.out hb0); clear BKp1; have BKp1 := n_; clear n_; have n_ := Aside0.mk (below_then HBo HBo.size hb0); clear HB; have HB := n_; clear n_; have HSw3 := Aside0.mk hb0.size; clear hb0 HBo; obtain ⟨hczp0_0, hczp0_1, hfzp0_0, hfzp0_1⟩ := c2_ BKp0; obtain ⟨hczp1_0, hczp1_1, hfzp1_0, hfzp1_1⟩ := c2_ BKp1))
  go_upto_region 8 with (first | ((with_reducible refine gate_callee (f := 31) rfl ?_); refine goesL_ _ rfl rfl Try.func31 (by kernel_rfl) rfl #[.agg #[.slice A1_0 l1_0.length c1_0, .slice A1_1 l1_1.length c1_1], .int .i64 s0] rfl (by (try simp only [List.map_toArray, List.map_cons, List.map_nil]); first | done | rfl) ?_; have HBo := HB.out; refine (laws_szSurface.calls A1_0 c1_0 l1_0 A1_1 c1_1 l1_1 s0 s1 _ (Kd.C_below HR1_0.out HB.out) HC1_0.out (Kd.C_below HR1_1.out HB.out) HC1_1.out FZ1.out).mono ?_; rintro e w4 ⟨rfl, hb0⟩; refine ⟨_, rfl, ?_⟩; clear hczp0_0 hfzp0_0 hczp0_1 hfzp0_1 hczp1_0 hfzp1_0 hczp1_1 hfzp1_1; have n_ := Aside0.mk (blk_below BKp0.out hb0); clear BKp0; have BKp0 := n_; clear n_; have n_ := Aside0.mk (blk_below BKp1.out hb0); clear BKp1; have BKp1 := n_; clear n_; have n_ := Aside0.mk (below_then HBo HBo.size hb0); clear HB; have HB := n_; clear n_; have HSw4 := Aside0.mk hb0.size; clear hb0 HBo; obtain ⟨hczp0_0, hczp0_1, hfzp0_0, hfzp0_1⟩ := c2_ BKp0; obtain ⟨hczp1_0, hczp1_1, hfzp1_0, hfzp1_1⟩ := c2_ BKp1))
  clear hczp0_0 hfzp0_0 hczp0_1 hfzp0_1 hczp1_0 hfzp1_0 hczp1_1 hfzp1_1
  have n_ := Aside0.mk (blk_drew BKp0.out)
  clear BKp0
  have BKp0 := n_
  clear n_
  have n_ := Aside0.mk (blk_drew BKp1.out)
  clear BKp1
  have BKp1 := n_
  clear n_
  have n_ := Aside0.mk (below_drew1 HB.out)
  clear HB
  have HB := n_
  clear n_
  have HSw6 := Aside0.mk (show w4.heap.size ≤ w4.drew.heap.size from Nat.le_refl _)
  refine start_ (n := 10) (S := fun w' => w'.cell? ⟨gbp0, 0, none⟩ = some (.slice A0_0 l0_0.length c0_0) ∧ w'.cell? ⟨gbp0, 1, none⟩ = some (.slice A0_1 l0_1.length c0_1) ∧ w'.cell? ⟨gbp1, 0, none⟩ = some (.slice A1_0 l1_0.length c1_0) ∧ w'.cell? ⟨gbp1, 1, none⟩ = some (.slice A1_1 l1_1.length c1_1)) (ds := []) (bl_ 10 0) (by kernel_rfl) rfl (by kernel_rfl) ⟨cz0_ BKp0, cz1_ BKp0, cz0_ BKp1, cz1_ BKp1⟩ (fun hHeld => ?_)
  generalize hwd : w4.drew = w6 at BKp0 BKp1 HB HSw6 hHeld ⊢
  clear hwd
  refine take_ (i := 0) (N := some 23) (v := ?_) (a' := ?_) (bl_ 10 1) rfl rfl (by kernel_rfl) (fun _ _ _ h => h) (Or.inl ⟨by rfl, ?_⟩) hHeld ?_ ?_
  rotate_left
  · rintro w' ⟨s0, s1, s2, s3⟩
    go_simp
    with_reducible rfl
  rotate_left
  · simp only [Act.put, List.setIfInBounds_toArray, List.set_cons_zero, List.set_cons_succ, i64_w, i32_w]
    rfl
  refine take_ (i := 2) (N := some 25) (v := ?_) (a' := ?_) (bl_ 10 5) rfl rfl (by kernel_rfl) (fun _ _ _ h => h) (Or.inl ⟨by rfl, ?_⟩) hHeld ?_ ?_
  rotate_left
  · rintro w' ⟨s0, s1, s2, s3⟩
    go_simp
    with_reducible rfl
  rotate_left
  · simp only [Act.put, List.setIfInBounds_toArray, List.set_cons_zero, List.set_cons_succ, i64_w, i32_w]
    rfl
  refine one_ (i := 1) (N := some 24) (bl_ 10 7) rfl rfl (by kernel_rfl) (by decide) (fun K hK => ?_)
  replace hK := Aside0.mk hK
  refine gO_ Try.func33 #[.agg #[.slice A0_0 l0_0.length c0_0, .slice A0_1 l0_1.length c0_1]] (by rfl) rfl rfl (by (try simp only [List.map_toArray, List.map_cons, List.map_nil]); first | done | rfl) ?_
  have HBo := HB.out
  refine (laws_toSurface.calls k A0_0 c0_0 l0_0 A0_1 c0_1 l0_1 l0_0 l0_1 _ (Kd.C_below HR0_0.out HB.out) HC0_0.out (Kd.C_below HR0_1.out HB.out) HC0_1.out FS0.out).mono ?_
  rintro e w7 ⟨v0_, v1_, rfl, h0_, h1_, hb0⟩
  refine ⟨_, rfl, ?_⟩
  clear hHeld
  have n_ := Aside0.mk (blk_below BKp0.out hb0)
  clear BKp0
  have BKp0 := n_
  clear n_
  have n_ := Aside0.mk (blk_below BKp1.out hb0)
  clear BKp1
  have BKp1 := n_
  clear n_
  have n_ := Aside0.mk (below_then HBo HBo.size hb0)
  clear HB
  have HB := n_
  clear n_
  have HSw7 := Aside0.mk hb0.size
  have NE1 := Aside0.mk h0_.1
  have Hx1a := Aside0.mk (fresh_R (b0 := w.heap.size) h0_ HBo.size)
  clear h0_
  obtain ⟨Ax1a, cx1a, ex1a⟩ := Kd.R_slice Hx1a.out
  subst ex1a
  have Hx1b := Aside0.mk (fresh_R (b0 := w.heap.size) h1_ HBo.size)
  clear h1_
  obtain ⟨Ax1b, cx1b, ex1b⟩ := Kd.R_slice Hx1b.out
  subst ex1b
  clear hb0 HBo
  refine hK.out _ _ ⟨cz0_ BKp0, cz1_ BKp0, cz0_ BKp1, cz1_ BKp1⟩ (fun hHeld => ?_)
  clear hK K
  refine no_ (some 24) ?_
  refine one_ (i := 3) (N := some 26) (bl_ 10 15) rfl rfl (by kernel_rfl) (by decide) (fun K hK => ?_)
  replace hK := Aside0.mk hK
  refine gO_ Try.func33 #[.agg #[.slice A1_0 l1_0.length c1_0, .slice A1_1 l1_1.length c1_1]] (by rfl) rfl rfl (by (try simp only [List.map_toArray, List.map_cons, List.map_nil]); first | done | rfl) ?_
  have HBo := HB.out
  refine (laws_toSurface.calls k A1_0 c1_0 l1_0 A1_1 c1_1 l1_1 l1_0 l1_1 _ (Kd.C_below HR1_0.out HB.out) HC1_0.out (Kd.C_below HR1_1.out HB.out) HC1_1.out FS1.out).mono ?_
  rintro e w8 ⟨v0_, v1_, rfl, h0_, h1_, hb0⟩
  refine ⟨_, rfl, ?_⟩
  clear hHeld
  have n_ := Aside0.mk (blk_below BKp0.out hb0)
  clear BKp0
  have BKp0 := n_
  clear n_
  have n_ := Aside0.mk (blk_below BKp1.out hb0)
  clear BKp1
  have BKp1 := n_
  clear n_
  have n_ := Aside0.mk (Kd.R_below Hx1a.out hb0)
  clear Hx1a
  have Hx1a := n_
  clear n_
  have n_ := Aside0.mk (Kd.R_below Hx1b.out hb0)
  clear Hx1b
  have Hx1b := n_
  clear n_
  have n_ := Aside0.mk (below_then HBo HBo.size hb0)
  clear HB
  have HB := n_
  clear n_
  have HSw8 := Aside0.mk hb0.size
  have NE2 := Aside0.mk h0_.1
  have Hx2a := Aside0.mk (fresh_R (b0 := w.heap.size) h0_ HBo.size)
  clear h0_
  obtain ⟨Ax2a, cx2a, ex2a⟩ := Kd.R_slice Hx2a.out
  subst ex2a
  have Hx2b := Aside0.mk (fresh_R (b0 := w.heap.size) h1_ HBo.size)
  clear h1_
  obtain ⟨Ax2b, cx2b, ex2b⟩ := Kd.R_slice Hx2b.out
  subst ex2b
  clear hb0 HBo
  refine hK.out _ _ ⟨cz0_ BKp0, cz1_ BKp0, cz0_ BKp1, cz1_ BKp1⟩ (fun hHeld => ?_)
  clear hK K
  refine no_ (some 26) ?_
  refine one_ (i := 4) (N := some 27) (bl_ 10 31) rfl rfl (by kernel_rfl) (by decide) (fun K hK => ?_)
  replace hK := Aside0.mk hK
  refine gO_ Try.func36 #[.agg #[.slice Ax1a l0_0.length cx1a, .slice Ax1b l0_1.length cx1b], .agg #[.slice Ax2a l1_0.length cx2a, .slice Ax2b l1_1.length cx2b]] (by rfl) rfl rfl (by (try simp only [List.map_toArray, List.map_cons, List.map_nil]); first | done | rfl) ?_
  have HBo := HB.out
  refine (spec_OrbitWord.calls k Ax1a cx1a l0_0 Ax1b cx1b l0_1 Ax2a cx2a l1_0 Ax2b cx2b l1_1 r0 r1 _ (Kd.R_reads' Hx1a.out).2.2 (Kd.R_reads' Hx1a.out).2.1 (Kd.R_reads' Hx1b.out).2.2 (Kd.R_reads' Hx1b.out).2.1 (Kd.R_reads' Hx2a.out).2.2 (Kd.R_reads' Hx2a.out).2.1 (Kd.R_reads' Hx2b.out).2.2 (Kd.R_reads' Hx2b.out).2.1 FW.out).mono ?_
  rintro e w9 ⟨rfl, hb0⟩
  refine ⟨_, rfl, ?_⟩
  clear hHeld
  have n_ := Aside0.mk (blk_below BKp0.out hb0)
  clear BKp0
  have BKp0 := n_
  clear n_
  have n_ := Aside0.mk (blk_below BKp1.out hb0)
  clear BKp1
  have BKp1 := n_
  clear n_
  have n_ := Aside0.mk (Kd.R_below Hx1a.out hb0)
  clear Hx1a
  have Hx1a := n_
  clear n_
  have n_ := Aside0.mk (Kd.R_below Hx1b.out hb0)
  clear Hx1b
  have Hx1b := n_
  clear n_
  have n_ := Aside0.mk (Kd.R_below Hx2a.out hb0)
  clear Hx2a
  have Hx2a := n_
  clear n_
  have n_ := Aside0.mk (Kd.R_below Hx2b.out hb0)
  clear Hx2b
  have Hx2b := n_
  clear n_
  have n_ := Aside0.mk (below_then HBo HBo.size hb0)
  clear HB
  have HB := n_
  clear n_
  have HSw9 := Aside0.mk hb0.size
  clear hb0 HBo
  refine hK.out _ _ ⟨cz0_ BKp0, cz1_ BKp0, cz0_ BKp1, cz1_ BKp1⟩ (fun hHeld => ?_)
  clear hK K
  refine no_ (some 27) ?_
  refine pure_ (i := 5) (N := some 22) (v := ?_) (a' := ?_) (bl_ 10 63) rfl rfl (by kernel_rfl) (fun _ _ _ h => h) (Or.inl ⟨by rfl, ?_⟩) ?_ ?_
  rotate_left
  · intro w'
    go_simp
    with_reducible rfl
  rotate_left
  · simp only [Act.put, List.setIfInBounds_toArray, List.set_cons_zero, List.set_cons_succ, i64_w, i32_w]
    rfl
  refine pure_ (i := 6) (N := some 28) (v := ?_) (a' := ?_) (bl_ 10 127) rfl rfl (by kernel_rfl) (fun _ _ _ h => h) (Or.inl ⟨by rfl, ?_⟩) ?_ ?_
  rotate_left
  · intro w'
    go_simp
    with_reducible rfl
  rotate_left
  · simp only [Act.put, List.setIfInBounds_toArray, List.set_cons_zero, List.set_cons_succ, i64_w, i32_w]
    rfl
  refine pure_ (i := 7) (N := some 29) (v := ?_) (a' := ?_) (bl_ 10 255) rfl rfl (by kernel_rfl) (fun _ _ _ h => h) (Or.inl ⟨by rfl, ?_⟩) ?_ ?_
  rotate_left
  · intro w'
    go_simp
    with_reducible rfl
  rotate_left
  · simp only [Act.put, List.setIfInBounds_toArray, List.set_cons_zero, List.set_cons_succ, i64_w, i32_w]
    rfl
  refine pure_ (i := 8) (N := some 6) (v := ?_) (a' := ?_) (bl_ 10 511) rfl rfl (by kernel_rfl) (fun _ _ _ h => h) (Or.inl ⟨by rfl, ?_⟩) ?_ ?_
  rotate_left
  · intro w'
    go_simp
    with_reducible rfl
  rotate_left
  · simp only [Act.put, List.setIfInBounds_toArray, List.set_cons_zero, List.set_cons_succ, i64_w, i32_w]
    rfl
  refine pure_ (i := 9) (N := some 7) (v := ?_) (a' := ?_) (bl_ 10 1023) rfl rfl (by kernel_rfl) (fun _ _ _ h => h) (Or.inl ⟨by rfl, ?_⟩) ?_ ?_
  rotate_left
  · intro w'
    go_simp
    with_reducible rfl
  rotate_left
  · simp only [Act.put, List.setIfInBounds_toArray, List.set_cons_zero, List.set_cons_succ, i64_w, i32_w]
    rfl
  refine done_ (by kernel_rfl) ?_
  clear hHeld
  obtain ⟨hczp0_0, hczp0_1, hfzp0_0, hfzp0_1⟩ := c2_ BKp0
  obtain ⟨hczp1_0, hczp1_1, hfzp1_0, hfzp1_1⟩ := c2_ BKp1
  clear Hx1a Hx1b Hx2a Hx2b
  go_upto_region 9 with (fail)
  go_upto_region 10 with (first | ((with_reducible refine gate_callee (f := 33) rfl ?_); refine goesL_ _ rfl rfl Try.func33 (by kernel_rfl) rfl #[.agg #[.slice A0_0 l0_0.length c0_0, .slice A0_1 l0_1.length c0_1]] rfl (by (try simp only [List.map_toArray, List.map_cons, List.map_nil]); first | done | rfl) ?_; have HBo := HB.out; refine (laws_toSurface.calls k A0_0 c0_0 l0_0 A0_1 c0_1 l0_1 l0_0 l0_1 _ (Kd.C_below HR0_0.out HB.out) HC0_0.out (Kd.C_below HR0_1.out HB.out) HC0_1.out FS0.out).mono ?_; rintro e w10 ⟨v0_, v1_, rfl, h0_, h1_, hb0⟩; refine ⟨_, rfl, ?_⟩; clear hczp0_0 hfzp0_0 hczp0_1 hfzp0_1 hczp1_0 hfzp1_0 hczp1_1 hfzp1_1; have n_ := Aside0.mk (blk_below BKp0.out hb0); clear BKp0; have BKp0 := n_; clear n_; have n_ := Aside0.mk (blk_below BKp1.out hb0); clear BKp1; have BKp1 := n_; clear n_; have n_ := Aside0.mk (below_then HBo HBo.size hb0); clear HB; have HB := n_; clear n_; have HSw10 := Aside0.mk hb0.size; have NE3 := Aside0.mk h0_.1; have Hx3a := Aside0.mk (fresh_R (b0 := w.heap.size) h0_ HBo.size); clear h0_; obtain ⟨Ax3a, cx3a, ex3a⟩ := Kd.R_slice Hx3a.out; subst ex3a; have Hx3b := Aside0.mk (fresh_R (b0 := w.heap.size) h1_ HBo.size); clear h1_; obtain ⟨Ax3b, cx3b, ex3b⟩ := Kd.R_slice Hx3b.out; subst ex3b; clear hb0 HBo; obtain ⟨hczp0_0, hczp0_1, hfzp0_0, hfzp0_1⟩ := c2_ BKp0; obtain ⟨hczp1_0, hczp1_1, hfzp1_0, hfzp1_1⟩ := c2_ BKp1) | ((with_reducible refine gate_dst (N := 8) rfl ?_); refine bx_ 8 #[.slice none 0 0, .slice none 0 0] 25 ?_; intro gbx0 hg w11 hbox hb; clear hczp0_0 hfzp0_0 hczp0_1 hfzp0_1 hczp1_0 hfzp1_0 hczp1_1 hfzp1_1; have HBo := HB.out; have n_ := Aside0.mk (blk_below BKp0.out hb); clear BKp0; have BKp0 := n_; clear n_; have n_ := Aside0.mk (blk_below BKp1.out hb); clear BKp1; have BKp1 := n_; clear n_; have n_ := Aside0.mk (Kd.R_below Hx3a.out hb); clear Hx3a; have Hx3a := n_; clear n_; have n_ := Aside0.mk (Kd.R_below Hx3b.out hb); clear Hx3b; have Hx3b := n_; clear n_; have n_ := Aside0.mk (below_then HBo HBo.size hb); clear HB; have HB := n_; clear n_; have HSw11 := Aside0.mk hb.size; have BKx0 := Aside0.mk hbox; have GIx0 := Aside0.mk (show w10.heap.size ≤ gbx0 ∧ gbx0 < w11.heap.size from ⟨by omega, blk_lt hbox⟩); have GEx0 := Aside0.mk (show w.heap.size ≤ gbx0 from by have := HBo.size; omega); clear hb hbox hg HBo; obtain ⟨hczp0_0, hczp0_1, hfzp0_0, hfzp0_1⟩ := c2_ BKp0; obtain ⟨hczp1_0, hczp1_1, hfzp1_0, hfzp1_1⟩ := c2_ BKp1; obtain ⟨hczx0_0, hczx0_1, hfzx0_0, hfzx0_1⟩ := c2_ BKx0) | ((with_reducible refine gate_store (t := 25) (p := 8) rfl ?_); refine store_event (t := 25) (p := 8) (v := ?vo8) (w1 := ((w11.setCell ⟨gbx0, 0, none⟩ (.slice Ax3a l0_0.length cx3a)).setCell ⟨gbx0, 1, none⟩ (.slice Ax3b l0_1.length cx3b))) ?hg ?ho ?hn ?hr ?_; (case ho => rfl); (case hg => rfl); (case hn => rfl); (case hr => first | (go_simp; done) | (go_simp; rfl)); intro wq hw; subst hw; obtain ⟨hbox, hkp, hB2⟩ := box_store BKx0.out (.slice Ax3a l0_0.length cx3a) (.slice Ax3b l0_1.length cx3b) HB.out GEx0.out; generalize hw : ((w11.setCell ⟨gbx0, 0, none⟩ (.slice Ax3a l0_0.length cx3a)).setCell ⟨gbx0, 1, none⟩ (.slice Ax3b l0_1.length cx3b)) = w12 at hbox hkp hB2 ⊢; clear hw; clear hczp0_0 hfzp0_0 hczp0_1 hfzp0_1 hczp1_0 hfzp1_0 hczp1_1 hfzp1_1 hczx0_0 hfzx0_0 hczx0_1 hfzx0_1; have n_ := Aside0.mk (blk_kept (g := gbp0) BKp0.out hkp (fun hs => by have hk := GIp0.out; have := hk.1; have := hk.2; have := GIx0.out; have := HSw1.out; have := HSw2.out; have := HSw3.out; have := HSw4.out; have := HSw6.out; have := HSw7.out; have := HSw8.out; have := HSw9.out; have := HSw10.out; have := HSw11.out; omega)); clear BKp0; have BKp0 := n_; clear n_; have n_ := Aside0.mk (blk_kept (g := gbp1) BKp1.out hkp (fun hs => by have hk := GIp1.out; have := hk.1; have := hk.2; have := GIx0.out; have := HSw1.out; have := HSw2.out; have := HSw3.out; have := HSw4.out; have := HSw6.out; have := HSw7.out; have := HSw8.out; have := HSw9.out; have := HSw10.out; have := HSw11.out; omega)); clear BKp1; have BKp1 := n_; clear n_; have n_ := Aside0.mk (Kd.R_kept Hx3a.out hkp (fun k_ hk hs => by have := hk.1; have := hk.2; have := GIx0.out; have := HSw1.out; have := HSw2.out; have := HSw3.out; have := HSw4.out; have := HSw6.out; have := HSw7.out; have := HSw8.out; have := HSw9.out; have := HSw10.out; have := HSw11.out; omega)); clear Hx3a; have Hx3a := n_; clear n_; have n_ := Aside0.mk (Kd.R_kept Hx3b.out hkp (fun k_ hk hs => by have := hk.1; have := hk.2; have := GIx0.out; have := HSw1.out; have := HSw2.out; have := HSw3.out; have := HSw4.out; have := HSw6.out; have := HSw7.out; have := HSw8.out; have := HSw9.out; have := HSw10.out; have := HSw11.out; omega)); clear Hx3b; have Hx3b := n_; clear n_; have n_ := Aside0.mk (hB2); clear HB; have HB := n_; clear n_; have HSw12 := Aside0.mk hkp.1; clear BKx0; have BKx0 := Aside0.mk (show w12.heap[gbx0]? = some (.cells #[.slice Ax3a l0_0.length cx3a, .slice Ax3b l0_1.length cx3b] 25 (0, 0)) from hbox); clear hbox hkp hB2; obtain ⟨hczp0_0, hczp0_1, hfzp0_0, hfzp0_1⟩ := c2_ BKp0; obtain ⟨hczp1_0, hczp1_1, hfzp1_0, hfzp1_1⟩ := c2_ BKp1; obtain ⟨hczx0_0, hczx0_1, hfzx0_0, hfzx0_1⟩ := c2_ BKx0))
  go_upto_region 11 with (first | ((with_reducible refine gate_callee (f := 33) rfl ?_); refine goesL_ _ rfl rfl Try.func33 (by kernel_rfl) rfl #[.agg #[.slice A1_0 l1_0.length c1_0, .slice A1_1 l1_1.length c1_1]] rfl (by (try simp only [List.map_toArray, List.map_cons, List.map_nil]); first | done | rfl) ?_; have HBo := HB.out; refine (laws_toSurface.calls k A1_0 c1_0 l1_0 A1_1 c1_1 l1_1 l1_0 l1_1 _ (Kd.C_below HR1_0.out HB.out) HC1_0.out (Kd.C_below HR1_1.out HB.out) HC1_1.out FS1.out).mono ?_; rintro e w13 ⟨v0_, v1_, rfl, h0_, h1_, hb0⟩; refine ⟨_, rfl, ?_⟩; clear hczp0_0 hfzp0_0 hczp0_1 hfzp0_1 hczp1_0 hfzp1_0 hczp1_1 hfzp1_1 hczx0_0 hfzx0_0 hczx0_1 hfzx0_1; have n_ := Aside0.mk (blk_below BKp0.out hb0); clear BKp0; have BKp0 := n_; clear n_; have n_ := Aside0.mk (blk_below BKp1.out hb0); clear BKp1; have BKp1 := n_; clear n_; have n_ := Aside0.mk (Kd.R_below Hx3a.out hb0); clear Hx3a; have Hx3a := n_; clear n_; have n_ := Aside0.mk (Kd.R_below Hx3b.out hb0); clear Hx3b; have Hx3b := n_; clear n_; have n_ := Aside0.mk (blk_below BKx0.out hb0); clear BKx0; have BKx0 := n_; clear n_; have n_ := Aside0.mk (below_then HBo HBo.size hb0); clear HB; have HB := n_; clear n_; have HSw13 := Aside0.mk hb0.size; have NE4 := Aside0.mk h0_.1; have Hx4a := Aside0.mk (fresh_R (b0 := w.heap.size) h0_ HBo.size); clear h0_; obtain ⟨Ax4a, cx4a, ex4a⟩ := Kd.R_slice Hx4a.out; subst ex4a; have Hx4b := Aside0.mk (fresh_R (b0 := w.heap.size) h1_ HBo.size); clear h1_; obtain ⟨Ax4b, cx4b, ex4b⟩ := Kd.R_slice Hx4b.out; subst ex4b; clear hb0 HBo; obtain ⟨hczp0_0, hczp0_1, hfzp0_0, hfzp0_1⟩ := c2_ BKp0; obtain ⟨hczp1_0, hczp1_1, hfzp1_0, hfzp1_1⟩ := c2_ BKp1; obtain ⟨hczx0_0, hczx0_1, hfzx0_0, hfzx0_1⟩ := c2_ BKx0) | ((with_reducible refine gate_dst (N := 9) rfl ?_); refine bx_ 9 #[.slice none 0 0, .slice none 0 0] 25 ?_; intro gbx1 hg w14 hbox hb; clear hczp0_0 hfzp0_0 hczp0_1 hfzp0_1 hczp1_0 hfzp1_0 hczp1_1 hfzp1_1 hczx0_0 hfzx0_0 hczx0_1 hfzx0_1; have HBo := HB.out; have n_ := Aside0.mk (blk_below BKp0.out hb); clear BKp0; have BKp0 := n_; clear n_; have n_ := Aside0.mk (blk_below BKp1.out hb); clear BKp1; have BKp1 := n_; clear n_; have n_ := Aside0.mk (Kd.R_below Hx3a.out hb); clear Hx3a; have Hx3a := n_; clear n_; have n_ := Aside0.mk (Kd.R_below Hx3b.out hb); clear Hx3b; have Hx3b := n_; clear n_; have n_ := Aside0.mk (blk_below BKx0.out hb); clear BKx0; have BKx0 := n_; clear n_; have n_ := Aside0.mk (Kd.R_below Hx4a.out hb); clear Hx4a; have Hx4a := n_; clear n_; have n_ := Aside0.mk (Kd.R_below Hx4b.out hb); clear Hx4b; have Hx4b := n_; clear n_; have n_ := Aside0.mk (below_then HBo HBo.size hb); clear HB; have HB := n_; clear n_; have HSw14 := Aside0.mk hb.size; have BKx1 := Aside0.mk hbox; have GIx1 := Aside0.mk (show w13.heap.size ≤ gbx1 ∧ gbx1 < w14.heap.size from ⟨by omega, blk_lt hbox⟩); have GEx1 := Aside0.mk (show w.heap.size ≤ gbx1 from by have := HBo.size; omega); clear hb hbox hg HBo; obtain ⟨hczp0_0, hczp0_1, hfzp0_0, hfzp0_1⟩ := c2_ BKp0; obtain ⟨hczp1_0, hczp1_1, hfzp1_0, hfzp1_1⟩ := c2_ BKp1; obtain ⟨hczx0_0, hczx0_1, hfzx0_0, hfzx0_1⟩ := c2_ BKx0; obtain ⟨hczx1_0, hczx1_1, hfzx1_0, hfzx1_1⟩ := c2_ BKx1) | ((with_reducible refine gate_store (t := 25) (p := 9) rfl ?_); refine store_event (t := 25) (p := 9) (v := ?vo9) (w1 := ((w14.setCell ⟨gbx1, 0, none⟩ (.slice Ax4a l1_0.length cx4a)).setCell ⟨gbx1, 1, none⟩ (.slice Ax4b l1_1.length cx4b))) ?hg ?ho ?hn ?hr ?_; (case ho => rfl); (case hg => rfl); (case hn => rfl); (case hr => first | (go_simp; done) | (go_simp; rfl)); intro wq hw; subst hw; obtain ⟨hbox, hkp, hB2⟩ := box_store BKx1.out (.slice Ax4a l1_0.length cx4a) (.slice Ax4b l1_1.length cx4b) HB.out GEx1.out; generalize hw : ((w14.setCell ⟨gbx1, 0, none⟩ (.slice Ax4a l1_0.length cx4a)).setCell ⟨gbx1, 1, none⟩ (.slice Ax4b l1_1.length cx4b)) = w15 at hbox hkp hB2 ⊢; clear hw; clear hczp0_0 hfzp0_0 hczp0_1 hfzp0_1 hczp1_0 hfzp1_0 hczp1_1 hfzp1_1 hczx0_0 hfzx0_0 hczx0_1 hfzx0_1 hczx1_0 hfzx1_0 hczx1_1 hfzx1_1; have n_ := Aside0.mk (blk_kept (g := gbp0) BKp0.out hkp (fun hs => by have hk := GIp0.out; have := hk.1; have := hk.2; have := GIx1.out; have := HSw1.out; have := HSw2.out; have := HSw3.out; have := HSw4.out; have := HSw6.out; have := HSw7.out; have := HSw8.out; have := HSw9.out; have := HSw10.out; have := HSw11.out; have := HSw12.out; have := HSw13.out; have := HSw14.out; omega)); clear BKp0; have BKp0 := n_; clear n_; have n_ := Aside0.mk (blk_kept (g := gbp1) BKp1.out hkp (fun hs => by have hk := GIp1.out; have := hk.1; have := hk.2; have := GIx1.out; have := HSw1.out; have := HSw2.out; have := HSw3.out; have := HSw4.out; have := HSw6.out; have := HSw7.out; have := HSw8.out; have := HSw9.out; have := HSw10.out; have := HSw11.out; have := HSw12.out; have := HSw13.out; have := HSw14.out; omega)); clear BKp1; have BKp1 := n_; clear n_; have n_ := Aside0.mk (Kd.R_kept Hx3a.out hkp (fun k_ hk hs => by have := hk.1; have := hk.2; have := GIx1.out; have := HSw1.out; have := HSw2.out; have := HSw3.out; have := HSw4.out; have := HSw6.out; have := HSw7.out; have := HSw8.out; have := HSw9.out; have := HSw10.out; have := HSw11.out; have := HSw12.out; have := HSw13.out; have := HSw14.out; omega)); clear Hx3a; have Hx3a := n_; clear n_; have n_ := Aside0.mk (Kd.R_kept Hx3b.out hkp (fun k_ hk hs => by have := hk.1; have := hk.2; have := GIx1.out; have := HSw1.out; have := HSw2.out; have := HSw3.out; have := HSw4.out; have := HSw6.out; have := HSw7.out; have := HSw8.out; have := HSw9.out; have := HSw10.out; have := HSw11.out; have := HSw12.out; have := HSw13.out; have := HSw14.out; omega)); clear Hx3b; have Hx3b := n_; clear n_; have n_ := Aside0.mk (blk_kept (g := gbx0) BKx0.out hkp (fun hs => by have hk := GIx0.out; have := hk.1; have := hk.2; have := GIx1.out; have := HSw1.out; have := HSw2.out; have := HSw3.out; have := HSw4.out; have := HSw6.out; have := HSw7.out; have := HSw8.out; have := HSw9.out; have := HSw10.out; have := HSw11.out; have := HSw12.out; have := HSw13.out; have := HSw14.out; omega)); clear BKx0; have BKx0 := n_; clear n_; have n_ := Aside0.mk (Kd.R_kept Hx4a.out hkp (fun k_ hk hs => by have := hk.1; have := hk.2; have := GIx1.out; have := HSw1.out; have := HSw2.out; have := HSw3.out; have := HSw4.out; have := HSw6.out; have := HSw7.out; have := HSw8.out; have := HSw9.out; have := HSw10.out; have := HSw11.out; have := HSw12.out; have := HSw13.out; have := HSw14.out; omega)); clear Hx4a; have Hx4a := n_; clear n_; have n_ := Aside0.mk (Kd.R_kept Hx4b.out hkp (fun k_ hk hs => by have := hk.1; have := hk.2; have := GIx1.out; have := HSw1.out; have := HSw2.out; have := HSw3.out; have := HSw4.out; have := HSw6.out; have := HSw7.out; have := HSw8.out; have := HSw9.out; have := HSw10.out; have := HSw11.out; have := HSw12.out; have := HSw13.out; have := HSw14.out; omega)); clear Hx4b; have Hx4b := n_; clear n_; have n_ := Aside0.mk (hB2); clear HB; have HB := n_; clear n_; have HSw15 := Aside0.mk hkp.1; clear BKx1; have BKx1 := Aside0.mk (show w15.heap[gbx1]? = some (.cells #[.slice Ax4a l1_0.length cx4a, .slice Ax4b l1_1.length cx4b] 25 (0, 0)) from hbox); clear hbox hkp hB2; obtain ⟨hczp0_0, hczp0_1, hfzp0_0, hfzp0_1⟩ := c2_ BKp0; obtain ⟨hczp1_0, hczp1_1, hfzp1_0, hfzp1_1⟩ := c2_ BKp1; obtain ⟨hczx0_0, hczx0_1, hfzx0_0, hfzx0_1⟩ := c2_ BKx0; obtain ⟨hczx1_0, hczx1_1, hfzx1_0, hfzx1_1⟩ := c2_ BKx1))
  go_upto_region 14 with (first | ((with_reducible refine gate_callee (f := 25) rfl ?_); refine goesL_ _ rfl rfl Try.func25 (by kernel_rfl) rfl #[.agg #[.slice Ax3a l0_0.length cx3a, .slice Ax3b l0_1.length cx3b], .agg #[.slice Ax4a l1_0.length cx4a, .slice Ax4b l1_1.length cx4b]] rfl (by (try simp only [List.map_toArray, List.map_cons, List.map_nil]); first | done | rfl) ?_; have HBo := HB.out; refine (impl_OrbitWord.calls k Ax3a cx3a l0_0 Ax3b cx3b l0_1 Ax4a cx4a l1_0 Ax4b cx4b l1_1 r0 r1 _ (Kd.R_reads' Hx3a.out).2.2 (Kd.R_reads' Hx3a.out).2.1 (Kd.R_reads' Hx3b.out).2.2 (Kd.R_reads' Hx3b.out).2.1 (Kd.R_reads' Hx4a.out).2.2 (Kd.R_reads' Hx4a.out).2.1 (Kd.R_reads' Hx4b.out).2.2 (Kd.R_reads' Hx4b.out).2.1 FG.out).mono ?_; rintro e w16 ⟨rfl, hb0⟩; refine ⟨_, rfl, ?_⟩; clear hczp0_0 hfzp0_0 hczp0_1 hfzp0_1 hczp1_0 hfzp1_0 hczp1_1 hfzp1_1 hczx0_0 hfzx0_0 hczx0_1 hfzx0_1 hczx1_0 hfzx1_0 hczx1_1 hfzx1_1; have n_ := Aside0.mk (blk_below BKp0.out hb0); clear BKp0; have BKp0 := n_; clear n_; have n_ := Aside0.mk (blk_below BKp1.out hb0); clear BKp1; have BKp1 := n_; clear n_; have n_ := Aside0.mk (Kd.R_below Hx3a.out hb0); clear Hx3a; have Hx3a := n_; clear n_; have n_ := Aside0.mk (Kd.R_below Hx3b.out hb0); clear Hx3b; have Hx3b := n_; clear n_; have n_ := Aside0.mk (blk_below BKx0.out hb0); clear BKx0; have BKx0 := n_; clear n_; have n_ := Aside0.mk (Kd.R_below Hx4a.out hb0); clear Hx4a; have Hx4a := n_; clear n_; have n_ := Aside0.mk (Kd.R_below Hx4b.out hb0); clear Hx4b; have Hx4b := n_; clear n_; have n_ := Aside0.mk (blk_below BKx1.out hb0); clear BKx1; have BKx1 := n_; clear n_; have n_ := Aside0.mk (below_then HBo HBo.size hb0); clear HB; have HB := n_; clear n_; have HSw16 := Aside0.mk hb0.size; clear hb0 HBo; obtain ⟨hczp0_0, hczp0_1, hfzp0_0, hfzp0_1⟩ := c2_ BKp0; obtain ⟨hczp1_0, hczp1_1, hfzp1_0, hfzp1_1⟩ := c2_ BKp1; obtain ⟨hczx0_0, hczx0_1, hfzx0_0, hfzx0_1⟩ := c2_ BKx0; obtain ⟨hczx1_0, hczx1_1, hfzx1_0, hfzx1_1⟩ := c2_ BKx1))
  clear hczp0_0 hfzp0_0 hczp0_1 hfzp0_1 hczp1_0 hfzp1_0 hczp1_1 hfzp1_1 hczx0_0 hfzx0_0 hczx0_1 hfzx0_1 hczx1_0 hfzx1_0 hczx1_1 hfzx1_1
  have n_ := Aside0.mk (blk_drew BKp0.out)
  clear BKp0
  have BKp0 := n_
  clear n_
  have n_ := Aside0.mk (blk_drew BKp1.out)
  clear BKp1
  have BKp1 := n_
  clear n_
  have n_ := Aside0.mk (Kd.R_drew Hx3a.out)
  clear Hx3a
  have Hx3a := n_
  clear n_
  have n_ := Aside0.mk (Kd.R_drew Hx3b.out)
  clear Hx3b
  have Hx3b := n_
  clear n_
  have n_ := Aside0.mk (blk_drew BKx0.out)
  clear BKx0
  have BKx0 := n_
  clear n_
  have n_ := Aside0.mk (Kd.R_drew Hx4a.out)
  clear Hx4a
  have Hx4a := n_
  clear n_
  have n_ := Aside0.mk (Kd.R_drew Hx4b.out)
  clear Hx4b
  have Hx4b := n_
  clear n_
  have n_ := Aside0.mk (blk_drew BKx1.out)
  clear BKx1
  have BKx1 := n_
  clear n_
  have n_ := Aside0.mk (below_drew1 HB.out)
  clear HB
  have HB := n_
  clear n_
  have HSw18 := Aside0.mk (show w16.heap.size ≤ w16.drew.heap.size from Nat.le_refl _)
  refine start_ (n := 5) (S := fun w' => w'.cell? ⟨gbp0, 0, none⟩ = some (.slice A0_0 l0_0.length c0_0) ∧ w'.cell? ⟨gbp0, 1, none⟩ = some (.slice A0_1 l0_1.length c0_1) ∧ w'.cell? ⟨gbp1, 0, none⟩ = some (.slice A1_0 l1_0.length c1_0) ∧ w'.cell? ⟨gbp1, 1, none⟩ = some (.slice A1_1 l1_1.length c1_1) ∧ w'.cell? ⟨gbx0, 0, none⟩ = some (.slice Ax3a l0_0.length cx3a) ∧ w'.cell? ⟨gbx0, 1, none⟩ = some (.slice Ax3b l0_1.length cx3b) ∧ w'.cell? ⟨gbx1, 0, none⟩ = some (.slice Ax4a l1_0.length cx4a) ∧ w'.cell? ⟨gbx1, 1, none⟩ = some (.slice Ax4b l1_1.length cx4b)) (ds := []) (bl_ 5 0) (by kernel_rfl) rfl (by kernel_rfl) ⟨cz0_ BKp0, cz1_ BKp0, cz0_ BKp1, cz1_ BKp1, cz0_ BKx0, cz1_ BKx0, cz0_ BKx1, cz1_ BKx1⟩ (fun hHeld => ?_)
  generalize hwd : w16.drew = w18 at BKp0 BKp1 Hx3a Hx3b BKx0 Hx4a Hx4b BKx1 HB HSw18 hHeld ⊢
  clear hwd
  refine take_ (i := 0) (N := some 48) (v := ?_) (a' := ?_) (bl_ 5 1) rfl rfl (by kernel_rfl) (fun _ _ _ h => h) (Or.inl ⟨by rfl, ?_⟩) hHeld ?_ ?_
  rotate_left
  · rintro w' ⟨s0, s1, s2, s3, s4, s5, s6, s7⟩
    go_simp
    with_reducible rfl
  rotate_left
  · simp only [Act.put, List.setIfInBounds_toArray, List.set_cons_zero, List.set_cons_succ, i64_w, i32_w]
    rfl
  refine take_ (i := 1) (N := some 49) (v := ?_) (a' := ?_) (bl_ 5 3) rfl rfl (by kernel_rfl) (fun _ _ _ h => h) (Or.inl ⟨by rfl, ?_⟩) hHeld ?_ ?_
  rotate_left
  · rintro w' ⟨s0, s1, s2, s3, s4, s5, s6, s7⟩
    go_simp
    with_reducible rfl
  rotate_left
  · simp only [Act.put, List.setIfInBounds_toArray, List.set_cons_zero, List.set_cons_succ, i64_w, i32_w]
    rfl
  refine one_ (i := 2) (N := some 50) (bl_ 5 7) rfl rfl (by kernel_rfl) (by decide) (fun K hK => ?_)
  replace hK := Aside0.mk hK
  refine gO_ Try.func33 #[.agg #[.slice A0_0 l0_0.length c0_0, .slice A0_1 l0_1.length c0_1]] (by rfl) rfl rfl (by (try simp only [List.map_toArray, List.map_cons, List.map_nil]); first | done | rfl) ?_
  have HBo := HB.out
  refine (laws_toSurface.calls k A0_0 c0_0 l0_0 A0_1 c0_1 l0_1 l0_0 l0_1 _ (Kd.C_below HR0_0.out HB.out) HC0_0.out (Kd.C_below HR0_1.out HB.out) HC0_1.out FS0.out).mono ?_
  rintro e w19 ⟨v0_, v1_, rfl, h0_, h1_, hb0⟩
  refine ⟨_, rfl, ?_⟩
  clear hHeld
  have n_ := Aside0.mk (blk_below BKp0.out hb0)
  clear BKp0
  have BKp0 := n_
  clear n_
  have n_ := Aside0.mk (blk_below BKp1.out hb0)
  clear BKp1
  have BKp1 := n_
  clear n_
  have n_ := Aside0.mk (Kd.R_below Hx3a.out hb0)
  clear Hx3a
  have Hx3a := n_
  clear n_
  have n_ := Aside0.mk (Kd.R_below Hx3b.out hb0)
  clear Hx3b
  have Hx3b := n_
  clear n_
  have n_ := Aside0.mk (blk_below BKx0.out hb0)
  clear BKx0
  have BKx0 := n_
  clear n_
  have n_ := Aside0.mk (Kd.R_below Hx4a.out hb0)
  clear Hx4a
  have Hx4a := n_
  clear n_
  have n_ := Aside0.mk (Kd.R_below Hx4b.out hb0)
  clear Hx4b
  have Hx4b := n_
  clear n_
  have n_ := Aside0.mk (blk_below BKx1.out hb0)
  clear BKx1
  have BKx1 := n_
  clear n_
  have n_ := Aside0.mk (below_then HBo HBo.size hb0)
  clear HB
  have HB := n_
  clear n_
  have HSw19 := Aside0.mk hb0.size
  have NE5 := Aside0.mk h0_.1
  have Hx5a := Aside0.mk (fresh_R (b0 := w.heap.size) h0_ HBo.size)
  clear h0_
  obtain ⟨Ax5a, cx5a, ex5a⟩ := Kd.R_slice Hx5a.out
  subst ex5a
  have Hx5b := Aside0.mk (fresh_R (b0 := w.heap.size) h1_ HBo.size)
  clear h1_
  obtain ⟨Ax5b, cx5b, ex5b⟩ := Kd.R_slice Hx5b.out
  subst ex5b
  clear hb0 HBo
  refine hK.out _ _ ⟨cz0_ BKp0, cz1_ BKp0, cz0_ BKp1, cz1_ BKp1, cz0_ BKx0, cz1_ BKx0, cz0_ BKx1, cz1_ BKx1⟩ (fun hHeld => ?_)
  clear hK K
  refine no_ (some 50) ?_
  refine one_ (i := 3) (N := some 51) (bl_ 5 15) rfl rfl (by kernel_rfl) (by decide) (fun K hK => ?_)
  replace hK := Aside0.mk hK
  refine gO_ Try.func34 #[.agg #[.slice Ax3a l0_0.length cx3a, .slice Ax3b l0_1.length cx3b], .agg #[.slice Ax5a l0_0.length cx5a, .slice Ax5b l0_1.length cx5b]] (by rfl) rfl rfl (by (try simp only [List.map_toArray, List.map_cons, List.map_nil]); first | done | rfl) ?_
  have HBo := HB.out
  refine (laws_eqSurface.calls k Ax3a cx3a l0_0 Ax3b cx3b l0_1 Ax5a cx5a l0_0 Ax5b cx5b l0_1 true _ (Kd.R_reads' Hx3a.out).2.2 (Kd.R_reads' Hx3a.out).2.1 (Kd.R_reads' Hx3b.out).2.2 (Kd.R_reads' Hx3b.out).2.1 (Kd.R_reads' Hx5a.out).2.2 (Kd.R_reads' Hx5a.out).2.1 (Kd.R_reads' Hx5b.out).2.2 (Kd.R_reads' Hx5b.out).2.1 FE0.out).mono ?_
  rintro e w20 ⟨rfl, hb0⟩
  refine ⟨_, rfl, ?_⟩
  clear hHeld
  have n_ := Aside0.mk (blk_below BKp0.out hb0)
  clear BKp0
  have BKp0 := n_
  clear n_
  have n_ := Aside0.mk (blk_below BKp1.out hb0)
  clear BKp1
  have BKp1 := n_
  clear n_
  have n_ := Aside0.mk (Kd.R_below Hx3a.out hb0)
  clear Hx3a
  have Hx3a := n_
  clear n_
  have n_ := Aside0.mk (Kd.R_below Hx3b.out hb0)
  clear Hx3b
  have Hx3b := n_
  clear n_
  have n_ := Aside0.mk (blk_below BKx0.out hb0)
  clear BKx0
  have BKx0 := n_
  clear n_
  have n_ := Aside0.mk (Kd.R_below Hx4a.out hb0)
  clear Hx4a
  have Hx4a := n_
  clear n_
  have n_ := Aside0.mk (Kd.R_below Hx4b.out hb0)
  clear Hx4b
  have Hx4b := n_
  clear n_
  have n_ := Aside0.mk (blk_below BKx1.out hb0)
  clear BKx1
  have BKx1 := n_
  clear n_
  have n_ := Aside0.mk (Kd.R_below Hx5a.out hb0)
  clear Hx5a
  have Hx5a := n_
  clear n_
  have n_ := Aside0.mk (Kd.R_below Hx5b.out hb0)
  clear Hx5b
  have Hx5b := n_
  clear n_
  have n_ := Aside0.mk (below_then HBo HBo.size hb0)
  clear HB
  have HB := n_
  clear n_
  have HSw20 := Aside0.mk hb0.size
  clear hb0 HBo
  refine hK.out _ _ ⟨cz0_ BKp0, cz1_ BKp0, cz0_ BKp1, cz1_ BKp1, cz0_ BKx0, cz1_ BKx0, cz0_ BKx1, cz1_ BKx1⟩ (fun hHeld => ?_)
  clear hK K
  refine no_ (some 51) ?_
  refine pure_ (i := 4) (N := some 52) (v := ?_) (a' := ?_) (bl_ 5 31) rfl rfl (by kernel_rfl) (fun _ _ _ h => h) (Or.inl ⟨by rfl, ?_⟩) ?_ ?_
  rotate_left
  · intro w'
    go_simp
    with_reducible rfl
  rotate_left
  · simp only [Act.put, List.setIfInBounds_toArray, List.set_cons_zero, List.set_cons_succ, i64_w, i32_w]
    rfl
  refine done_ (by kernel_rfl) ?_
  clear hHeld
  obtain ⟨hczp0_0, hczp0_1, hfzp0_0, hfzp0_1⟩ := c2_ BKp0
  obtain ⟨hczp1_0, hczp1_1, hfzp1_0, hfzp1_1⟩ := c2_ BKp1
  obtain ⟨hczx0_0, hczx0_1, hfzx0_0, hfzx0_1⟩ := c2_ BKx0
  obtain ⟨hczx1_0, hczx1_1, hfzx1_0, hfzx1_1⟩ := c2_ BKx1
  clear Hx5a Hx5b
  go_upto_region 16 with (fail)
  clear hczp0_0 hfzp0_0 hczp0_1 hfzp0_1 hczp1_0 hfzp1_0 hczp1_1 hfzp1_1 hczx0_0 hfzx0_0 hczx0_1 hfzx0_1 hczx1_0 hfzx1_0 hczx1_1 hfzx1_1
  have n_ := Aside0.mk (blk_drew BKp0.out)
  clear BKp0
  have BKp0 := n_
  clear n_
  have n_ := Aside0.mk (blk_drew BKp1.out)
  clear BKp1
  have BKp1 := n_
  clear n_
  have n_ := Aside0.mk (Kd.R_drew Hx3a.out)
  clear Hx3a
  have Hx3a := n_
  clear n_
  have n_ := Aside0.mk (Kd.R_drew Hx3b.out)
  clear Hx3b
  have Hx3b := n_
  clear n_
  have n_ := Aside0.mk (blk_drew BKx0.out)
  clear BKx0
  have BKx0 := n_
  clear n_
  have n_ := Aside0.mk (Kd.R_drew Hx4a.out)
  clear Hx4a
  have Hx4a := n_
  clear n_
  have n_ := Aside0.mk (Kd.R_drew Hx4b.out)
  clear Hx4b
  have Hx4b := n_
  clear n_
  have n_ := Aside0.mk (blk_drew BKx1.out)
  clear BKx1
  have BKx1 := n_
  clear n_
  have n_ := Aside0.mk (below_drew1 HB.out)
  clear HB
  have HB := n_
  clear n_
  have HSw22 := Aside0.mk (show w20.heap.size ≤ w20.drew.heap.size from Nat.le_refl _)
  refine start_ (n := 5) (S := fun w' => w'.cell? ⟨gbp0, 0, none⟩ = some (.slice A0_0 l0_0.length c0_0) ∧ w'.cell? ⟨gbp0, 1, none⟩ = some (.slice A0_1 l0_1.length c0_1) ∧ w'.cell? ⟨gbp1, 0, none⟩ = some (.slice A1_0 l1_0.length c1_0) ∧ w'.cell? ⟨gbp1, 1, none⟩ = some (.slice A1_1 l1_1.length c1_1) ∧ w'.cell? ⟨gbx0, 0, none⟩ = some (.slice Ax3a l0_0.length cx3a) ∧ w'.cell? ⟨gbx0, 1, none⟩ = some (.slice Ax3b l0_1.length cx3b) ∧ w'.cell? ⟨gbx1, 0, none⟩ = some (.slice Ax4a l1_0.length cx4a) ∧ w'.cell? ⟨gbx1, 1, none⟩ = some (.slice Ax4b l1_1.length cx4b)) (ds := []) (bl_ 5 0) (by kernel_rfl) rfl (by kernel_rfl) ⟨cz0_ BKp0, cz1_ BKp0, cz0_ BKp1, cz1_ BKp1, cz0_ BKx0, cz1_ BKx0, cz0_ BKx1, cz1_ BKx1⟩ (fun hHeld => ?_)
  generalize hwd : w20.drew = w22 at BKp0 BKp1 Hx3a Hx3b BKx0 Hx4a Hx4b BKx1 HB HSw22 hHeld ⊢
  clear hwd
  refine take_ (i := 0) (N := some 53) (v := ?_) (a' := ?_) (bl_ 5 1) rfl rfl (by kernel_rfl) (fun _ _ _ h => h) (Or.inl ⟨by rfl, ?_⟩) hHeld ?_ ?_
  rotate_left
  · rintro w' ⟨s0, s1, s2, s3, s4, s5, s6, s7⟩
    go_simp
    with_reducible rfl
  rotate_left
  · simp only [Act.put, List.setIfInBounds_toArray, List.set_cons_zero, List.set_cons_succ, i64_w, i32_w]
    rfl
  refine take_ (i := 1) (N := some 54) (v := ?_) (a' := ?_) (bl_ 5 3) rfl rfl (by kernel_rfl) (fun _ _ _ h => h) (Or.inl ⟨by rfl, ?_⟩) hHeld ?_ ?_
  rotate_left
  · rintro w' ⟨s0, s1, s2, s3, s4, s5, s6, s7⟩
    go_simp
    with_reducible rfl
  rotate_left
  · simp only [Act.put, List.setIfInBounds_toArray, List.set_cons_zero, List.set_cons_succ, i64_w, i32_w]
    rfl
  refine one_ (i := 2) (N := some 55) (bl_ 5 7) rfl rfl (by kernel_rfl) (by decide) (fun K hK => ?_)
  replace hK := Aside0.mk hK
  refine gO_ Try.func33 #[.agg #[.slice A1_0 l1_0.length c1_0, .slice A1_1 l1_1.length c1_1]] (by rfl) rfl rfl (by (try simp only [List.map_toArray, List.map_cons, List.map_nil]); first | done | rfl) ?_
  have HBo := HB.out
  refine (laws_toSurface.calls k A1_0 c1_0 l1_0 A1_1 c1_1 l1_1 l1_0 l1_1 _ (Kd.C_below HR1_0.out HB.out) HC1_0.out (Kd.C_below HR1_1.out HB.out) HC1_1.out FS1.out).mono ?_
  rintro e w23 ⟨v0_, v1_, rfl, h0_, h1_, hb0⟩
  refine ⟨_, rfl, ?_⟩
  clear hHeld
  have n_ := Aside0.mk (blk_below BKp0.out hb0)
  clear BKp0
  have BKp0 := n_
  clear n_
  have n_ := Aside0.mk (blk_below BKp1.out hb0)
  clear BKp1
  have BKp1 := n_
  clear n_
  have n_ := Aside0.mk (Kd.R_below Hx3a.out hb0)
  clear Hx3a
  have Hx3a := n_
  clear n_
  have n_ := Aside0.mk (Kd.R_below Hx3b.out hb0)
  clear Hx3b
  have Hx3b := n_
  clear n_
  have n_ := Aside0.mk (blk_below BKx0.out hb0)
  clear BKx0
  have BKx0 := n_
  clear n_
  have n_ := Aside0.mk (Kd.R_below Hx4a.out hb0)
  clear Hx4a
  have Hx4a := n_
  clear n_
  have n_ := Aside0.mk (Kd.R_below Hx4b.out hb0)
  clear Hx4b
  have Hx4b := n_
  clear n_
  have n_ := Aside0.mk (blk_below BKx1.out hb0)
  clear BKx1
  have BKx1 := n_
  clear n_
  have n_ := Aside0.mk (below_then HBo HBo.size hb0)
  clear HB
  have HB := n_
  clear n_
  have HSw23 := Aside0.mk hb0.size
  have NE6 := Aside0.mk h0_.1
  have Hx6a := Aside0.mk (fresh_R (b0 := w.heap.size) h0_ HBo.size)
  clear h0_
  obtain ⟨Ax6a, cx6a, ex6a⟩ := Kd.R_slice Hx6a.out
  subst ex6a
  have Hx6b := Aside0.mk (fresh_R (b0 := w.heap.size) h1_ HBo.size)
  clear h1_
  obtain ⟨Ax6b, cx6b, ex6b⟩ := Kd.R_slice Hx6b.out
  subst ex6b
  clear hb0 HBo
  refine hK.out _ _ ⟨cz0_ BKp0, cz1_ BKp0, cz0_ BKp1, cz1_ BKp1, cz0_ BKx0, cz1_ BKx0, cz0_ BKx1, cz1_ BKx1⟩ (fun hHeld => ?_)
  clear hK K
  refine no_ (some 55) ?_
  refine one_ (i := 3) (N := some 56) (bl_ 5 15) rfl rfl (by kernel_rfl) (by decide) (fun K hK => ?_)
  replace hK := Aside0.mk hK
  refine gO_ Try.func34 #[.agg #[.slice Ax4a l1_0.length cx4a, .slice Ax4b l1_1.length cx4b], .agg #[.slice Ax6a l1_0.length cx6a, .slice Ax6b l1_1.length cx6b]] (by rfl) rfl rfl (by (try simp only [List.map_toArray, List.map_cons, List.map_nil]); first | done | rfl) ?_
  have HBo := HB.out
  refine (laws_eqSurface.calls k Ax4a cx4a l1_0 Ax4b cx4b l1_1 Ax6a cx6a l1_0 Ax6b cx6b l1_1 true _ (Kd.R_reads' Hx4a.out).2.2 (Kd.R_reads' Hx4a.out).2.1 (Kd.R_reads' Hx4b.out).2.2 (Kd.R_reads' Hx4b.out).2.1 (Kd.R_reads' Hx6a.out).2.2 (Kd.R_reads' Hx6a.out).2.1 (Kd.R_reads' Hx6b.out).2.2 (Kd.R_reads' Hx6b.out).2.1 FE1.out).mono ?_
  rintro e w24 ⟨rfl, hb0⟩
  refine ⟨_, rfl, ?_⟩
  clear hHeld
  have n_ := Aside0.mk (blk_below BKp0.out hb0)
  clear BKp0
  have BKp0 := n_
  clear n_
  have n_ := Aside0.mk (blk_below BKp1.out hb0)
  clear BKp1
  have BKp1 := n_
  clear n_
  have n_ := Aside0.mk (Kd.R_below Hx3a.out hb0)
  clear Hx3a
  have Hx3a := n_
  clear n_
  have n_ := Aside0.mk (Kd.R_below Hx3b.out hb0)
  clear Hx3b
  have Hx3b := n_
  clear n_
  have n_ := Aside0.mk (blk_below BKx0.out hb0)
  clear BKx0
  have BKx0 := n_
  clear n_
  have n_ := Aside0.mk (Kd.R_below Hx4a.out hb0)
  clear Hx4a
  have Hx4a := n_
  clear n_
  have n_ := Aside0.mk (Kd.R_below Hx4b.out hb0)
  clear Hx4b
  have Hx4b := n_
  clear n_
  have n_ := Aside0.mk (blk_below BKx1.out hb0)
  clear BKx1
  have BKx1 := n_
  clear n_
  have n_ := Aside0.mk (Kd.R_below Hx6a.out hb0)
  clear Hx6a
  have Hx6a := n_
  clear n_
  have n_ := Aside0.mk (Kd.R_below Hx6b.out hb0)
  clear Hx6b
  have Hx6b := n_
  clear n_
  have n_ := Aside0.mk (below_then HBo HBo.size hb0)
  clear HB
  have HB := n_
  clear n_
  have HSw24 := Aside0.mk hb0.size
  clear hb0 HBo
  refine hK.out _ _ ⟨cz0_ BKp0, cz1_ BKp0, cz0_ BKp1, cz1_ BKp1, cz0_ BKx0, cz1_ BKx0, cz0_ BKx1, cz1_ BKx1⟩ (fun hHeld => ?_)
  clear hK K
  refine no_ (some 56) ?_
  refine pure_ (i := 4) (N := some 57) (v := ?_) (a' := ?_) (bl_ 5 31) rfl rfl (by kernel_rfl) (fun _ _ _ h => h) (Or.inl ⟨by rfl, ?_⟩) ?_ ?_
  rotate_left
  · intro w'
    go_simp
    with_reducible rfl
  rotate_left
  · simp only [Act.put, List.setIfInBounds_toArray, List.set_cons_zero, List.set_cons_succ, i64_w, i32_w]
    rfl
  refine done_ (by kernel_rfl) ?_
  clear hHeld
  obtain ⟨hczp0_0, hczp0_1, hfzp0_0, hfzp0_1⟩ := c2_ BKp0
  obtain ⟨hczp1_0, hczp1_1, hfzp1_0, hfzp1_1⟩ := c2_ BKp1
  obtain ⟨hczx0_0, hczx0_1, hfzx0_0, hfzx0_1⟩ := c2_ BKx0
  obtain ⟨hczx1_0, hczx1_1, hfzx1_0, hfzx1_1⟩ := c2_ BKx1
  clear Hx6a Hx6b
  go_wp2
  go_ret
  exact ⟨rfl, HB.out⟩
end Go.Proofs.Ytcggfjpnfodbaaa.A
end
section
/- Plain mathematics: permutations as lists of numbers. No conditions. -/
namespace Go.Proofs.Ytcggfjpnfodbaaa.M
set_option linter.unusedVariables false
set_option linter.unusedSimpArgs false
def I (l : List Nat) : List Int := l.map Int.ofNat
def g (p : List Nat) (i : Nat) : Nat := p.getD i 0
def tab (n : Nat) (f : Nat → Nat) : List Nat := (List.range n).map f
theorem I_len (l : List Nat) : (I l).length = l.length := by simp [I]
theorem I_inj {a b : List Nat} (h : I a = I b) : a = b := by
  unfold I at h
  exact (List.map_inj_right (fun x y hxy => Int.ofNat.inj hxy)).mp h
theorem tab_len (n : Nat) (f : Nat → Nat) : (tab n f).length = n := by simp [tab]
theorem g_tab {n : Nat} {f : Nat → Nat} {i : Nat} (h : i < n) : g (tab n f) i = f i := by simp [g, tab, List.getD_eq_getElem?_getD, h]
theorem g_get {p : List Nat} {i : Nat} (h : i < p.length) : g p i = p[i] := by simp [g, List.getD_eq_getElem?_getD, h]
theorem g_mem {p : List Nat} {i : Nat} (h : i < p.length) : g p i ∈ p := by rw [g_get h]; exact List.getElem_mem h
theorem mem_g {p : List Nat} {x : Nat} (h : x ∈ p) : ∃ i, i < p.length ∧ g p i = x := by
  obtain ⟨i, hi, rfl⟩ := List.mem_iff_getElem.mp h
  exact ⟨i, hi, g_get hi⟩
theorem ext_g {a b : List Nat} (hl : a.length = b.length) (h : ∀ i, i < a.length → g a i = g b i) : a = b := by
  apply List.ext_getElem hl
  intro i h1 h2
  rw [← g_get h1, ← g_get h2]
  exact h i h1
theorem eq_tab {l : List Nat} {n : Nat} {f : Nat → Nat} (hl : l.length = n) (h : ∀ i, i < n → g l i = f i) : l = tab n f :=
  ext_g (by rw [tab_len, hl]) (fun i hi => by rw [hl] at hi; rw [g_tab hi, h i hi])
theorem g_set {p : List Nat} {i x j : Nat} (h : i < p.length) : g (p.set i x) j = if i = j then x else g p j := by
  unfold g
  rw [List.getD_eq_getElem?_getD, List.getD_eq_getElem?_getD, List.getElem?_set]
  by_cases e : i = j
  · subst e
    simp [h]
  · simp [e]
theorem I_set (p : List Nat) (i x : Nat) : (I p).set i (x : Int) = I (p.set i x) := by simp [I, List.map_set]
theorem I_snoc (p : List Nat) (x : Nat) : I p ++ [(x : Int)] = I (p ++ [x]) := by simp [I]
theorem I_rep (n x : Nat) : I (List.replicate n x) = List.replicate n (x : Int) := by simp [I]
structure IsP (p : List Nat) : Prop where
  lt : ∀ x ∈ p, x < p.length
  nd : p.Nodup
instance (p : List Nat) : Decidable (IsP p) := decidable_of_iff ((∀ x ∈ p, x < p.length) ∧ p.Nodup) ⟨fun h => ⟨h.1, h.2⟩, fun h => ⟨h.lt, h.nd⟩⟩
theorem nodup_le (n : Nat) : ∀ l : List Nat, l.Nodup → (∀ x ∈ l, x < n) → l.length ≤ n := by
  induction n with
  | zero =>
    intro l _ h
    cases l with
    | nil => simp
    | cons a l => exact absurd (h a (by simp)) (by omega)
  | succ n ih =>
    intro l hn h
    have h1 := ih (l.erase n) (hn.erase n) (fun x hx => by
      have h2 := (List.Nodup.mem_erase_iff hn).mp hx
      have h3 := h x h2.2
      have h4 := h2.1
      omega)
    have h5 := @List.length_erase _ _ _ n l
    split at h5 <;> omega
theorem mem_all {p : List Nat} (hp : IsP p) {x : Nat} (h : x < p.length) : x ∈ p := by
  apply Classical.byContradiction
  intro hx
  have := nodup_le p.length (x :: p) (List.nodup_cons.mpr ⟨hx, hp.nd⟩) (fun y hy => by
    rcases List.mem_cons.mp hy with rfl | hy
    · exact h
    · exact hp.lt y hy)
  simp at this
  omega
theorem g_lt {p : List Nat} (hp : IsP p) {i : Nat} (h : i < p.length) : g p i < p.length := hp.lt _ (g_mem h)
theorem g_inj {p : List Nat} (hp : IsP p) {i j : Nat} (hi : i < p.length) (hj : j < p.length) (h : g p i = g p j) : i = j := by
  rw [g_get hi, g_get hj] at h
  have hw := List.pairwise_iff_getElem.mp hp.nd
  rcases Nat.lt_trichotomy i j with hij | hij | hij
  · exact absurd h (hw i j hi hj hij)
  · exact hij
  · exact absurd h.symm (hw j i hj hi hij)
def ix (p : List Nat) (x : Nat) : Nat := p.idxOf x
theorem ix_lt {p : List Nat} (hp : IsP p) {x : Nat} (h : x < p.length) : ix p x < p.length := List.idxOf_lt_length_of_mem (mem_all hp h)
theorem g_ix {p : List Nat} (hp : IsP p) {x : Nat} (h : x < p.length) : g p (ix p x) = x := by
  rw [g_get (ix_lt hp h)]
  exact List.getElem_idxOf (ix_lt hp h)
theorem ix_g {p : List Nat} (hp : IsP p) {i : Nat} (h : i < p.length) : ix p (g p i) = i :=
  g_inj hp (ix_lt hp (g_lt hp h)) h (g_ix hp (g_lt hp h))
theorem ix_eq {p : List Nat} (hp : IsP p) {i x : Nat} (h : i < p.length) (e : g p i = x) : ix p x = i := by rw [← e]; exact ix_g hp h
theorem isP_mk {p : List Nat} (h1 : ∀ i, i < p.length → g p i < p.length) (h2 : ∀ i j, i < p.length → j < p.length → g p i = g p j → i = j) : IsP p := by
  refine ⟨fun x hx => ?_, ?_⟩
  · obtain ⟨i, hi, rfl⟩ := mem_g hx
    exact h1 i hi
  · refine List.pairwise_iff_getElem.mpr ?_
    intro i j hi hj hij e'
    rw [← g_get hi, ← g_get hj] at e'
    have := h2 i j hi hj e'
    omega
theorem isP_tab {n : Nat} {f : Nat → Nat} (h1 : ∀ i, i < n → f i < n) (h2 : ∀ i j, i < n → j < n → f i = f j → i = j) : IsP (tab n f) := by
  refine isP_mk (fun i hi => ?_) (fun i j hi hj e => ?_)
  · rw [tab_len] at hi ⊢; rw [g_tab hi]; exact h1 i hi
  · rw [tab_len] at hi hj; rw [g_tab hi, g_tab hj] at e; exact h2 i j hi hj e
def inv (p : List Nat) : List Nat := tab p.length (ix p)
theorem inv_len (p : List Nat) : (inv p).length = p.length := tab_len _ _
theorem g_inv {p : List Nat} {i : Nat} (h : i < p.length) : g (inv p) i = ix p i := g_tab h
theorem isP_inv {p : List Nat} (hp : IsP p) : IsP (inv p) := isP_tab (fun i hi => ix_lt hp hi) (fun i j hi hj e => by rw [← g_ix hp hi, ← g_ix hp hj, e])
def thn (p q : List Nat) : List Nat := tab p.length (fun i => g q (g p i))
theorem thn_len (p q : List Nat) : (thn p q).length = p.length := tab_len _ _
theorem g_thn {p q : List Nat} {i : Nat} (h : i < p.length) : g (thn p q) i = g q (g p i) := g_tab h
theorem isP_thn {p q : List Nat} (hp : IsP p) (hq : IsP q) (hl : p.length = q.length) : IsP (thn p q) :=
  isP_tab (fun i hi => by have h1 := g_lt hp hi; have h2 := g_lt hq (i := g p i) (by omega); omega)
    (fun i j hi hj e => g_inj hp hi hj (g_inj hq (by have := g_lt hp hi; omega) (by have := g_lt hp hj; omega) e))
def ren (p names : List Nat) : List Nat := tab p.length (fun j => g names (g p (ix names j)))
theorem ren_len (p names : List Nat) : (ren p names).length = p.length := tab_len _ _
theorem g_ren {p names : List Nat} {j : Nat} (h : j < p.length) : g (ren p names) j = g names (g p (ix names j)) := g_tab h
theorem isP_ren {p names : List Nat} (hp : IsP p) (hn : IsP names) (hl : p.length = names.length) : IsP (ren p names) := by
  refine isP_tab (fun i hi => ?_) (fun i j hi hj e => ?_)
  · have h1 := ix_lt hn (x := i) (by omega)
    have h2 := g_lt hp (i := ix names i) (by omega)
    have h3 := g_lt hn (i := g p (ix names i)) (by omega)
    omega
  · have h1 := ix_lt hn (x := i) (by omega)
    have h2 := ix_lt hn (x := j) (by omega)
    have h3 := g_lt hp (i := ix names i) (by omega)
    have h4 := g_lt hp (i := ix names j) (by omega)
    have h5 := g_inj hn (by omega) (by omega) e
    have h6 := g_inj hp (by omega) (by omega) h5
    have h7 := g_ix hn (x := i) (by omega)
    have h8 := g_ix hn (x := j) (by omega)
    rw [← h7, ← h8, h6]
end Go.Proofs.Ytcggfjpnfodbaaa.M
end
section
/- Plain mathematics: permutations of whole numbers, and what is reached by two of them. No conditions. -/
namespace Go.Proofs.Ytcggfjpnfodbaaa.M
set_option linter.unusedVariables false
set_option linter.unusedSimpArgs false
open Go.RowKit Go.Proofs.YtcggfjpnfodbaaaW.PrintWords Go.Proofs.YtcggfjpnfodbaaaW.PrintLast Go.Proofs.YtcggfjpnfodbaaaW.PrintMore
theorem w64 {x : Int} (h0 : -9223372036854775808 ≤ x) (h1 : x ≤ 9223372036854775807) : wrap64 x = x := by unfold wrap64; omega
theorem w64s (i : Nat) (h : i ≤ 9000000000000000000) : wrap64 ((i : Int) + 1) = ((i + 1 : Nat) : Int) := by rw [w64 (by omega) (by omega)]; omega
theorem ev_succ {α : Type} {f : Nat → Option α} {r : α} (h : Ev (fun k => f (k + 1)) r) : Ev f r := Ev.step (fun _ => rfl) h
theorem rdI (p : List Nat) (i : Nat) : rd (I p) (i : Int) = ((g p i : Nat) : Int) := by
  unfold rd g I
  simp only [Int.toNat_natCast, List.getD_eq_getElem?_getD, List.getElem?_map]
  cases p[i]? <;> rfl
theorem rd_get (l : List Int) (i : Nat) (h : i < l.length) : rd l (i : Int) = l[i] := by
  unfold rd
  simp [List.getD_eq_getElem?_getD, h]
theorem mem_I {p : List Nat} {x : Nat} : (x : Int) ∈ I p ↔ x ∈ p := by
  unfold I
  constructor
  · intro h
    obtain ⟨y, hy, e⟩ := List.mem_map.mp h
    have : y = x := Int.ofNat.inj e
    exact this ▸ hy
  · intro h
    exact List.mem_map.mpr ⟨x, h, rfl⟩
def PI (l : List Int) : Prop := l.length ≤ 24 ∧ (∀ x ∈ l, 0 ≤ x ∧ x < (l.length : Int)) ∧ l.Nodup
instance : DecidablePred PI := fun l => by unfold PI; infer_instance
def permB (l : List Int) : Bool := decide (PI l)
def N (l : List Int) : List Nat := l.map Int.toNat
theorem N_I (p : List Nat) : N (I p) = p := by
  unfold N I
  rw [List.map_map]
  exact List.map_id'' (fun x => rfl) p
theorem N_len (l : List Int) : (N l).length = l.length := by simp [N]
theorem I_N {l : List Int} (h : ∀ x ∈ l, 0 ≤ x) : I (N l) = l := by
  unfold N I
  rw [List.map_map]
  conv => rhs; rw [← List.map_id l]
  apply List.map_congr_left
  intro x hx
  have := h x hx
  simp only [Function.comp, id]
  show ((x.toNat : Nat) : Int) = x
  omega
theorem PI_nat {l : List Int} (h : PI l) : ∃ p, l = I p ∧ IsP p ∧ p.length ≤ 24 := by
  obtain ⟨h1, h2, h3⟩ := h
  refine ⟨N l, (I_N (fun x hx => (h2 x hx).1)).symm, ?_, by rw [N_len]; exact h1⟩
  have e := I_N (fun x hx => (h2 x hx).1)
  refine ⟨fun x hx => ?_, ?_⟩
  · have := (h2 (x : Int) (by rw [← e]; exact mem_I.mpr hx)).2
    rw [N_len]
    omega
  · rw [← e] at h3
    unfold I at h3
    exact (List.pairwise_map.mp h3).imp (fun {a b} hab hh => hab (by rw [hh]))
theorem PI_I {p : List Nat} : PI (I p) ↔ IsP p ∧ p.length ≤ 24 := by
  constructor
  · intro h
    obtain ⟨q, e, h1, h2⟩ := PI_nat h
    have := I_inj e
    subst this
    exact ⟨h1, h2⟩
  · intro ⟨h1, h2⟩
    refine ⟨by rw [I_len]; exact h2, fun x hx => ?_, ?_⟩
    · unfold I at hx
      obtain ⟨y, hy, rfl⟩ := List.mem_map.mp hx
      have := h1.lt y hy
      rw [I_len]
      exact ⟨Int.natCast_nonneg y, Int.ofNat_lt.mpr this⟩
    · unfold I
      exact List.pairwise_map.mpr (h1.nd.imp (fun {a b} hab hh => hab (Int.ofNat.inj hh)))
theorem permB_I {p : List Nat} : permB (I p) = true ↔ IsP p ∧ p.length ≤ 24 := by
  unfold permB
  rw [decide_eq_true_iff]
  exact PI_I
def okFrom (l : List Int) (i : Nat) : Prop := ∀ j : Nat, i ≤ j → j < l.length → 0 ≤ rd l (j : Int) ∧ rd l (j : Int) < (l.length : Int) ∧ rd l (j : Int) ∉ l.take j
theorem okFrom_end (l : List Int) (i : Nat) (h : l.length ≤ i) : okFrom l i := fun j h1 h2 => by omega
theorem okFrom_step {l : List Int} {i : Nat} (h : 0 ≤ rd l (i : Int) ∧ rd l (i : Int) < (l.length : Int) ∧ rd l (i : Int) ∉ l.take i) : okFrom l i ↔ okFrom l (i + 1) := by
  constructor
  · intro k j h1 h2
    exact k j (by omega) h2
  · intro k j h1 h2
    by_cases e : j = i
    · subst e
      exact h
    · exact k j (by omega) h2
theorem okFrom_not {l : List Int} {i : Nat} (hi : i < l.length) (h : ¬ (0 ≤ rd l (i : Int) ∧ rd l (i : Int) < (l.length : Int) ∧ rd l (i : Int) ∉ l.take i)) : ¬ okFrom l i := fun k => h (k i (Nat.le_refl _) hi)
theorem okFrom_PI {l : List Int} (h : l.length ≤ 24) : okFrom l 0 ↔ PI l := by
  constructor
  · intro k
    refine ⟨h, fun x hx => ?_, ?_⟩
    · obtain ⟨i, hi, rfl⟩ := List.mem_iff_getElem.mp hx
      have := k i (Nat.zero_le _) hi
      rw [rd_get l i hi] at this
      exact ⟨this.1, this.2.1⟩
    · refine List.pairwise_iff_getElem.mpr ?_
      intro i j hi hj hij e
      have := (k j (Nat.zero_le _) hj).2.2
      rw [rd_get l j hj, ← e] at this
      exact this (List.mem_take_iff_getElem.mpr ⟨i, by omega, rfl⟩)
  · intro ⟨_, h2, h3⟩ j _ hj
    rw [rd_get l j hj]
    refine ⟨(h2 _ (List.getElem_mem hj)).1, (h2 _ (List.getElem_mem hj)).2, fun hm => ?_⟩
    obtain ⟨i, hi, e⟩ := List.mem_take_iff_getElem.mp hm
    exact List.pairwise_iff_getElem.mp h3 i j (by omega) hj (by omega) e
theorem permB_of {l : List Int} {b : Bool} (h : l.length ≤ 24) (hb : b = true ↔ okFrom l 0) : b = permB l := by
  rw [Bool.eq_iff_iff, hb, okFrom_PI h]
  unfold permB
  rw [decide_eq_true_iff]
theorem take_succ (l : List Int) (i : Nat) (h : i < l.length) : l.take (i + 1) = l.take i ++ [rd l (i : Int)] := by
  rw [rd_get l i h, List.take_append_getElem h]
def st1 (out : List Nat) (x : Nat) : List Nat := if x ∈ out then out else out ++ [x]
def bfs (p q : List Nat) : Nat → Nat → List Nat → List Nat
  | 0, _, out => out
  | f + 1, a, out => if a < out.length then bfs p q f (a + 1) (st1 (st1 out (g p (g out a))) (g q (g out a))) else out
def reach (p q : List Nat) (s : Nat) : List Nat := bfs p q (p.length + 1) 0 [s]
structure RInv (n : Nat) (out : List Nat) : Prop where
  nd : out.Nodup
  lt : ∀ x ∈ out, x < n
theorem RInv.le {n : Nat} {out : List Nat} (h : RInv n out) : out.length ≤ n := nodup_le n out h.nd h.lt
theorem RInv.st {n : Nat} {out : List Nat} {x : Nat} (h : RInv n out) (hx : x < n) : RInv n (st1 out x) := by
  unfold st1
  split
  · exact h
  · rename_i hn
    refine ⟨List.nodup_append.mpr ⟨h.nd, by simp, fun a ha b hb e => ?_⟩, fun y hy => ?_⟩
    · have : b = x := by simpa using hb
      subst this
      exact hn (e ▸ ha)
    · rcases List.mem_append.mp hy with hy | hy
      · exact h.lt y hy
      · have : y = x := by simpa using hy
        omega
theorem st1_len (out : List Nat) (x : Nat) : out.length ≤ (st1 out x).length := by
  unfold st1
  split <;> simp
theorem RInv.g {n : Nat} {out : List Nat} {a : Nat} (h : RInv n out) (ha : a < out.length) : M.g out a < n := h.lt _ (g_mem ha)
structure Sf (r u : List Nat) : Prop where
  pr : IsP r
  pu : IsP u
  le : r.length ≤ 24
  eq : u.length = r.length
  pos : 0 < r.length
  all : (reach r u 0).length = r.length
def surfB (r u : List Int) : Bool := permB r && permB u && decide (r.length = u.length) && decide (0 < r.length) && ((reach (N r) (N u) 0).length == r.length)
theorem surf_nat {r u : List Int} (h : surfB r u = true) : ∃ r' u', r = I r' ∧ u = I u' ∧ Sf r' u' := by
  unfold surfB at h
  simp only [Bool.and_eq_true, decide_eq_true_eq, beq_iff_eq] at h
  obtain ⟨⟨⟨⟨h1, h2⟩, h3⟩, h4⟩, h5⟩ := h
  obtain ⟨r', rfl, a1, a2⟩ := PI_nat (of_decide_eq_true h1)
  obtain ⟨u', rfl, b1, b2⟩ := PI_nat (of_decide_eq_true h2)
  rw [N_I, N_I, I_len] at h5
  rw [I_len, I_len] at h3
  rw [I_len] at h4
  exact ⟨r', u', rfl, rfl, a1, b1, a2, h3.symm, h4, h5⟩
theorem surfB_I {r u : List Nat} : surfB (I r) (I u) = true ↔ Sf r u := by
  constructor
  · intro h
    obtain ⟨r', u', e1, e2, hs⟩ := surf_nat h
    have := I_inj e1
    have := I_inj e2
    subst_vars
    exact hs
  · intro h
    unfold surfB
    simp only [Bool.and_eq_true, decide_eq_true_eq, beq_iff_eq]
    rw [N_I, N_I, I_len, I_len]
    exact ⟨⟨⟨⟨permB_I.mpr ⟨h.pr, h.le⟩, permB_I.mpr ⟨h.pu, by have := h.le; have := h.eq; omega⟩⟩, h.eq.symm⟩, h.pos⟩, h.all⟩
end Go.Proofs.Ytcggfjpnfodbaaa.M
end
section
/- Plain mathematics: going round a permutation. No conditions. -/
namespace Go.Proofs.Ytcggfjpnfodbaaa.M
set_option linter.unusedVariables false
set_option linter.unusedSimpArgs false
def itr (p : List Nat) : Nat → Nat → Nat
  | 0, s => s
  | m + 1, s => g p (itr p m s)
theorem itr_lt {p : List Nat} (hp : IsP p) (m : Nat) {s : Nat} (hs : s < p.length) : itr p m s < p.length := by
  induction m with
  | zero => exact hs
  | succ m ih => exact g_lt hp ih
theorem itr_add (p : List Nat) (a b s : Nat) : itr p (a + b) s = itr p a (itr p b s) := by
  induction a with
  | zero => simp [itr]
  | succ a ih =>
    have e : a + 1 + b = (a + b) + 1 := by omega
    rw [e, itr, itr, ih]
theorem itr_back {p : List Nat} (hp : IsP p) {s : Nat} (hs : s < p.length) (i d : Nat) (h : itr p (i + d) s = itr p i s) : itr p d s = s := by
  induction i with
  | zero =>
    have e : 0 + d = d := by omega
    rw [e] at h
    exact h
  | succ i ih =>
    have e : i + 1 + d = (i + d) + 1 := by omega
    rw [e] at h
    exact ih (g_inj hp (itr_lt hp _ hs) (itr_lt hp _ hs) h)
theorem period {p : List Nat} (hp : IsP p) {s : Nat} (hs : s < p.length) : ∃ m, 1 ≤ m ∧ m ≤ p.length ∧ itr p m s = s := by
  apply Classical.byContradiction
  intro hn
  have hd : ((List.range (p.length + 1)).map (fun m => itr p m s)).Nodup := by
    refine List.pairwise_map.mpr ?_
    refine List.pairwise_iff_getElem.mpr ?_
    intro i j hi hj hij
    rw [List.length_range] at hi hj
    rw [List.getElem_range, List.getElem_range]
    intro e
    have : itr p (j - i) s = s := itr_back hp hs i (j - i) (by
      have e2 : i + (j - i) = j := by omega
      rw [e2]
      exact e.symm)
    exact hn ⟨j - i, by omega, by omega, this⟩
  have := nodup_le p.length _ hd (fun x hx => by
    obtain ⟨m, _, rfl⟩ := List.mem_map.mp hx
    exact itr_lt hp m hs)
  simp at this
  omega
def per (p : List Nat) (s : Nat) : Nat := (((List.range p.length).find? (fun m => itr p (m + 1) s == s)).getD 0) + 1
def orbTo (p : List Nat) (s m : Nat) : List Nat := (List.range m).map (fun k => itr p k s)
def orb (p : List Nat) (s : Nat) : List Nat := orbTo p s (per p s)
end Go.Proofs.Ytcggfjpnfodbaaa.M
end
section
/- Plain mathematics: surfaces, and what the four letters make of them. No conditions. -/
namespace Go.Proofs.Ytcggfjpnfodbaaa.M
set_option linter.unusedVariables false
set_option linter.unusedSimpArgs false
theorem st1_mem {out : List Nat} {x y : Nat} : y ∈ st1 out x ↔ y ∈ out ∨ y = x := by
  unfold st1
  split
  · rename_i h
    constructor
    · exact Or.inl
    · rintro (h' | rfl)
      · exact h'
      · exact h
  · simp
theorem st1_g {out : List Nat} {x i : Nat} (h : i < out.length) : g (st1 out x) i = g out i := by
  unfold st1
  split
  · rfl
  · unfold g
    rw [List.getD_eq_getElem?_getD, List.getD_eq_getElem?_getD, List.getElem?_append_left h]
theorem st1_le (out : List Nat) (x : Nat) : out.length ≤ (st1 out x).length := by
  unfold st1
  split
  · exact Nat.le_refl _
  · simp
theorem bfs_ind {r u : List Nat} {n : Nat} (S : Nat → Prop) (h1 : ∀ x, x < n → S x → S (g r x) ∧ g r x < n) (h2 : ∀ x, x < n → S x → S (g u x) ∧ g u x < n) : ∀ (F a : Nat) (out : List Nat), (∀ x ∈ out, S x ∧ x < n) → ∀ x ∈ bfs r u F a out, S x ∧ x < n := by
  intro F
  induction F with
  | zero => intro a out h; exact h
  | succ F ih =>
    intro a out h
    unfold bfs
    split
    · rename_i ha
      obtain ⟨s, l⟩ := h _ (g_mem ha)
      refine ih _ _ (fun x hx => ?_)
      rcases st1_mem.mp hx with hx | rfl
      · rcases st1_mem.mp hx with hx | rfl
        · exact h x hx
        · exact h1 _ l s
      · exact h2 _ l s
    · exact h
theorem bfs_sub {r u : List Nat} : ∀ (F a : Nat) (out : List Nat), ∀ x ∈ out, x ∈ bfs r u F a out := by
  intro F
  induction F with
  | zero => intro a out x h; exact h
  | succ F ih =>
    intro a out x h
    unfold bfs
    split
    · exact ih _ _ x (st1_mem.mpr (.inl (st1_mem.mpr (.inl h))))
    · exact h
theorem bfs_rinv {r u : List Nat} {n : Nat} (h1 : ∀ x, x < n → g r x < n) (h2 : ∀ x, x < n → g u x < n) : ∀ (F a : Nat) (out : List Nat), RInv n out → RInv n (bfs r u F a out) := by
  intro F
  induction F with
  | zero => intro a out h; exact h
  | succ F ih =>
    intro a out h
    unfold bfs
    split
    · rename_i ha
      have hx := h.g ha
      exact ih _ _ ((h.st (h1 _ hx)).st (h2 _ hx))
    · exact h
theorem bfs_shut {r u : List Nat} {n : Nat} (h1 : ∀ x, x < n → g r x < n) (h2 : ∀ x, x < n → g u x < n) : ∀ (F a : Nat) (out : List Nat), RInv n out → a ≤ out.length → n < F + a → (∀ i, i < a → g r (g out i) ∈ out ∧ g u (g out i) ∈ out) → ∀ x ∈ bfs r u F a out, g r x ∈ bfs r u F a out ∧ g u x ∈ bfs r u F a out := by
  intro F
  induction F with
  | zero =>
    intro a out h ha hF
    have := h.le
    omega
  | succ F ih =>
    intro a out h ha hF hc
    unfold bfs
    split
    · rename_i ha'
      have hx := h.g ha'
      have r1 := h.st (h1 _ hx)
      have l1 := st1_le out (g r (g out a))
      have l2 := st1_le (st1 out (g r (g out a))) (g u (g out a))
      refine ih _ _ (r1.st (h2 _ hx)) (by omega) (by omega) (fun i hi => ?_)
      have e : g (st1 (st1 out (g r (g out a))) (g u (g out a))) i = g out i := by
        rw [st1_g (by omega), st1_g (by omega)]
      rw [e]
      by_cases hia : i < a
      · exact ⟨st1_mem.mpr (.inl (st1_mem.mpr (.inl (hc i hia).1))), st1_mem.mpr (.inl (st1_mem.mpr (.inl (hc i hia).2)))⟩
      · obtain rfl : i = a := by omega
        exact ⟨st1_mem.mpr (.inl (st1_mem.mpr (.inr rfl))), st1_mem.mpr (.inr rfl)⟩
    · intro x hx
      obtain ⟨i, hi, rfl⟩ := mem_g hx
      exact hc i (by omega)
theorem nodup_sub_len5 : ∀ (a b : List Nat), a.Nodup → (∀ x ∈ a, x ∈ b) → a.length ≤ b.length := by
  intro a
  induction a with
  | nil => intro b _ _; simp
  | cons x a ih =>
    intro b hn h
    obtain ⟨h1, h2⟩ := List.nodup_cons.mp hn
    have hx : x ∈ b := h x (by simp)
    have := ih (b.erase x) h2 (fun y hy => (List.mem_erase_of_ne (fun e => h1 (by rw [← e]; exact hy))).mpr (h y (by simp [hy])))
    rw [List.length_erase_of_mem hx] at this
    have hp := List.length_pos_of_mem hx
    simp
    omega
def Tr (r u : List Nat) : Prop := ∀ S : Nat → Prop, S 0 → (∀ x, x < r.length → S x → S (g r x)) → (∀ x, x < r.length → S x → S (g u x)) → ∀ x, x < r.length → S x
theorem sf_of_tr {r u : List Nat} (pr : IsP r) (pu : IsP u) (le : r.length ≤ 24) (eq : u.length = r.length) (pos : 0 < r.length) (h : Tr r u) : Sf r u := by
  have b1 : ∀ x, x < r.length → g r x < r.length := fun x hx => g_lt pr hx
  have b2 : ∀ x, x < r.length → g u x < r.length := fun x hx => by have := g_lt pu (i := x) (by omega); omega
  have hri : RInv r.length (reach r u 0) := bfs_rinv b1 b2 _ _ _ ⟨by simp, by simpa using pos⟩
  have hsh := bfs_shut b1 b2 (r.length + 1) 0 [0] ⟨by simp, by simpa using pos⟩ (by simp) (by omega) (fun i hi => by omega)
  have hall : ∀ x, x < r.length → x ∈ reach r u 0 := h (fun x => x ∈ reach r u 0) (bfs_sub _ _ _ 0 (by simp)) (fun x _ hx => (hsh x hx).1) (fun x _ hx => (hsh x hx).2)
  refine ⟨pr, pu, le, eq, pos, ?_⟩
  have l1 := hri.le
  have l2 := nodup_sub_len5 (List.range r.length) (reach r u 0) List.nodup_range (fun x hx => hall x (List.mem_range.mp hx))
  rw [List.length_range] at l2
  omega
theorem Sf.tr {r u : List Nat} (hs : Sf r u) : Tr r u := by
  intro S s0 h1 h2 x hx
  have b1 : ∀ x, x < r.length → g r x < r.length := fun x hx => g_lt hs.pr hx
  have b2 : ∀ x, x < r.length → g u x < r.length := fun x hx => by have := g_lt hs.pu (i := x) (by rw [hs.eq]; exact hx); rw [hs.eq] at this; exact this
  have hri : RInv r.length (reach r u 0) := bfs_rinv b1 b2 _ _ _ ⟨by simp, by simpa using hs.pos⟩
  have hp : IsP (reach r u 0) := ⟨fun x hx => by rw [hs.all]; exact hri.lt x hx, hri.nd⟩
  have hm := mem_all hp (x := x) (by rw [hs.all]; exact hx)
  have h0 : ∀ y ∈ [0], S y ∧ y < r.length := by
    intro y hy
    obtain rfl : y = 0 := by simpa using hy
    exact ⟨s0, hs.pos⟩
  exact (bfs_ind S (fun x hx h => ⟨h1 x hx h, b1 x hx⟩) (fun x hx h => ⟨h2 x hx h, b2 x hx⟩) _ _ [0] h0 x hm).1
theorem closed_back {p : List Nat} (hp : IsP p) {S : Nat → Prop} (hS : ∀ x, x < p.length → S x → S (g p x)) {x : Nat} (hx : x < p.length) (h : S (g p x)) : S x := by
  obtain ⟨m, h1, _, h3⟩ := period hp hx
  have H : ∀ k, S (itr p k (g p x)) := by
    intro k
    induction k with
    | zero => exact h
    | succ k ih => exact hS _ (itr_lt hp k (g_lt hp hx)) ih
  have e : itr p (m - 1) (g p x) = itr p m x := by
    have := itr_add p (m - 1) 1 x
    rw [show m - 1 + 1 = m by omega] at this
    exact this.symm
  have := H (m - 1)
  rw [e, h3] at this
  exact this
theorem reach_full {r u : List Nat} (hs : Sf r u) {s : Nat} (hb : s < r.length) : RInv r.length (reach r u s) ∧ ∀ x, x < r.length → x ∈ reach r u s := by
  have b1 : ∀ x, x < r.length → g r x < r.length := fun x hx => g_lt hs.pr hx
  have b2 : ∀ x, x < r.length → g u x < r.length := fun x hx => by have := g_lt hs.pu (i := x) (by rw [hs.eq]; exact hx); rw [hs.eq] at this; exact this
  have h0 : RInv r.length [s] := ⟨by simp, by simpa using hb⟩
  have hsh := bfs_shut b1 b2 (r.length + 1) 0 [s] h0 (by simp) (by omega) (fun i hi => by omega)
  have hmem : s ∈ reach r u s := bfs_sub _ _ _ s (by simp)
  refine ⟨bfs_rinv b1 b2 _ _ _ h0, ?_⟩
  have z : (0 : Nat) ∈ reach r u s := by
    apply Classical.byContradiction
    intro hz
    refine hs.tr (fun x => x ∉ reach r u s) hz (fun x hx hn hm => ?_) (fun x hx hn hm => ?_) s hb hmem
    · exact hn (closed_back hs.pr (S := fun x => x ∈ reach r u s) (fun y _ hy => (hsh y hy).1) hx hm)
    · exact hn (closed_back hs.pu (S := fun x => x ∈ reach r u s) (fun y _ hy => (hsh y hy).2) (by rw [hs.eq]; exact hx) hm)
  exact hs.tr (fun x => x ∈ reach r u s) z (fun x _ hx => (hsh x hx).1) (fun x _ hx => (hsh x hx).2)
theorem sf_T {r u : List Nat} (hs : Sf r u) : Sf r (thn (inv r) u) := by
  have h1 : (inv r).length = u.length := by rw [inv_len, hs.eq]
  refine sf_of_tr hs.pr (isP_thn (isP_inv hs.pr) hs.pu h1) hs.le (by rw [thn_len, inv_len]) hs.pos (fun S s0 k1 k2 => hs.tr S s0 k1 (fun x hx hsx => ?_))
  have := k2 (g r x) (g_lt hs.pr hx) (k1 x hx hsx)
  rw [g_thn (by rw [inv_len]; exact g_lt hs.pr hx), g_inv (g_lt hs.pr hx), ix_g hs.pr hx] at this
  exact this
theorem sf_t {r u : List Nat} (hs : Sf r u) : Sf r (thn r u) := by
  have h1 : r.length = u.length := hs.eq.symm
  refine sf_of_tr hs.pr (isP_thn hs.pr hs.pu h1) hs.le (by rw [thn_len]) hs.pos (fun S s0 k1 k2 => hs.tr S s0 k1 (fun y hy hsy => ?_))
  have hx : ix r y < r.length := ix_lt hs.pr hy
  have e : g r (ix r y) = y := g_ix hs.pr hy
  have hsx : S (ix r y) := closed_back hs.pr (S := S) k1 hx (by rw [e]; exact hsy)
  have := k2 _ hx hsx
  rw [g_thn hx, e] at this
  exact this
theorem sf_S {r u : List Nat} (hs : Sf r u) : Sf (inv u) r := by
  have hl : (inv u).length = r.length := by rw [inv_len, hs.eq]
  refine sf_of_tr (isP_inv hs.pu) hs.pr (by rw [hl]; exact hs.le) hl.symm (by rw [hl]; exact hs.pos) (fun S s0 k1 k2 => ?_)
  rw [hl] at k1 k2 ⊢
  refine hs.tr S s0 k2 (fun x hx hsx => ?_)
  have hx' : g u x < u.length := g_lt hs.pu (by rw [hs.eq]; exact hx)
  refine closed_back (isP_inv hs.pu) (S := S) (fun y hy => k1 y (by rw [← hl]; exact hy)) (x := g u x) (by rw [inv_len]; exact hx') ?_
  rw [g_inv hx', ix_g hs.pu (by rw [hs.eq]; exact hx)]
  exact hsx
theorem sf_s {r u : List Nat} (hs : Sf r u) : Sf u (inv r) := by
  refine sf_of_tr hs.pu (isP_inv hs.pr) (by rw [hs.eq]; exact hs.le) (by rw [inv_len, hs.eq]) (by rw [hs.eq]; exact hs.pos) (fun S s0 k1 k2 => ?_)
  rw [hs.eq] at k1 k2 ⊢
  refine hs.tr S s0 (fun x hx hsx => ?_) k1
  have hx' : g r x < r.length := g_lt hs.pr hx
  refine closed_back (isP_inv hs.pr) (S := S) (fun y hy => k2 y (by rw [inv_len] at hy; exact hy)) (x := g r x) (by rw [inv_len]; exact hx') ?_
  rw [g_inv hx', ix_g hs.pr hx]
  exact hsx
end Go.Proofs.Ytcggfjpnfodbaaa.M
end
section
/- Plain mathematics: surfaces that are alike by renaming. No conditions. -/
namespace Go.Proofs.Ytcggfjpnfodbaaa.M
set_option linter.unusedVariables false
set_option linter.unusedSimpArgs false
structure Is (s t : List Nat × List Nat) (f : Nat → Nat) : Prop where
  len : t.1.length = s.1.length
  lt : ∀ x, x < s.1.length → f x < s.1.length
  inj : ∀ x y, x < s.1.length → y < s.1.length → f x = f y → x = y
  r : ∀ x, x < s.1.length → f (g s.1 x) = g t.1 (f x)
  u : ∀ x, x < s.1.length → f (g s.2 x) = g t.2 (f x)
theorem Sf.gr {r u : List Nat} (hs : Sf r u) {x : Nat} (h : x < r.length) : g r x < r.length := g_lt hs.pr h
theorem Sf.gu {r u : List Nat} (hs : Sf r u) {x : Nat} (h : x < r.length) : g u x < r.length := by
  have := g_lt hs.pu (i := x) (by rw [hs.eq]; exact h)
  rw [hs.eq] at this
  exact this
theorem Sf.ir {r u : List Nat} (hs : Sf r u) {x : Nat} (h : x < r.length) : ix r x < r.length := ix_lt hs.pr h
theorem Sf.iu {r u : List Nat} (hs : Sf r u) {x : Nat} (h : x < r.length) : ix u x < r.length := by
  have := ix_lt hs.pu (x := x) (by rw [hs.eq]; exact h)
  rw [hs.eq] at this
  exact this
theorem Is.refl (s : List Nat × List Nat) : Is s s (fun x => x) := ⟨rfl, fun _ h => h, fun _ _ _ _ h => h, fun _ _ => rfl, fun _ _ => rfl⟩
theorem Is.trans {s t v : List Nat × List Nat} {f h : Nat → Nat} (a : Is s t f) (b : Is t v h) : Is s v (fun x => h (f x)) where
  len := b.len.trans a.len
  lt x hx := by have := b.lt (f x) (by rw [a.len]; exact a.lt x hx); rw [a.len] at this; exact this
  inj x y hx hy e := a.inj x y hx hy (b.inj _ _ (by rw [a.len]; exact a.lt x hx) (by rw [a.len]; exact a.lt y hy) e)
  r x hx := by show h (f (g s.1 x)) = _; rw [a.r x hx, b.r _ (by rw [a.len]; exact a.lt x hx)]
  u x hx := by show h (f (g s.2 x)) = _; rw [a.u x hx, b.u _ (by rw [a.len]; exact a.lt x hx)]
def bk (n : Nat) (f : Nat → Nat) (y : Nat) : Nat := ix (tab n f) y
theorem bk_lt {n : Nat} {f : Nat → Nat} (h1 : ∀ x, x < n → f x < n) (h2 : ∀ x y, x < n → y < n → f x = f y → x = y) {y : Nat} (hy : y < n) : bk n f y < n := by
  have := ix_lt (isP_tab h1 h2) (x := y) (by rw [tab_len]; exact hy)
  rw [tab_len] at this
  exact this
theorem f_bk {n : Nat} {f : Nat → Nat} (h1 : ∀ x, x < n → f x < n) (h2 : ∀ x y, x < n → y < n → f x = f y → x = y) {y : Nat} (hy : y < n) : f (bk n f y) = y := by
  have h := g_ix (isP_tab h1 h2) (x := y) (by rw [tab_len]; exact hy)
  have hb : ix (tab n f) y < n := bk_lt h1 h2 hy
  rw [g_tab hb] at h
  exact h
theorem bk_f {n : Nat} {f : Nat → Nat} (h1 : ∀ x, x < n → f x < n) (h2 : ∀ x y, x < n → y < n → f x = f y → x = y) {x : Nat} (hx : x < n) : bk n f (f x) = x :=
  h2 _ _ (bk_lt h1 h2 (h1 x hx)) hx (f_bk h1 h2 (h1 x hx))
theorem Is.symm {s t : List Nat × List Nat} {f : Nat → Nat} (hs : Sf s.1 s.2) (a : Is s t f) : Is t s (bk s.1.length f) where
  len := a.len.symm
  lt y hy := by rw [a.len] at hy ⊢; exact bk_lt a.lt a.inj hy
  inj y z hy hz e := by
    rw [a.len] at hy hz
    rw [← f_bk a.lt a.inj hy, ← f_bk a.lt a.inj hz, e]
  r y hy := by
    rw [a.len] at hy
    have hb := bk_lt a.lt a.inj hy
    have e : g t.1 y = f (g s.1 (bk s.1.length f y)) := by rw [a.r _ hb, f_bk a.lt a.inj hy]
    rw [e, bk_f a.lt a.inj (hs.gr hb)]
  u y hy := by
    rw [a.len] at hy
    have hb := bk_lt a.lt a.inj hy
    have e : g t.2 y = f (g s.2 (bk s.1.length f y)) := by rw [a.u _ hb, f_bk a.lt a.inj hy]
    rw [e, bk_f a.lt a.inj (hs.gu hb)]
theorem Sf.of_is {s t : List Nat × List Nat} {f : Nat → Nat} (hs : Sf s.1 s.2) (a : Is s t f) (p1 : IsP t.1) (p2 : IsP t.2) (hl : t.2.length = t.1.length) : Sf t.1 t.2 := by
  refine sf_of_tr p1 p2 (by rw [a.len]; exact hs.le) hl (by rw [a.len]; exact hs.pos) (fun S s0 k1 k2 y hy => ?_)
  rw [a.len] at k1 k2 hy
  have i0 := bk_lt a.lt a.inj hs.pos
  have h0 : S (f (bk s.1.length f 0)) := by rw [f_bk a.lt a.inj hs.pos]; exact s0
  have hm := (reach_full hs i0).2 (bk s.1.length f y) (bk_lt a.lt a.inj hy)
  have := (bfs_ind (fun x => S (f x)) (n := s.1.length) (fun x hx h => ⟨by rw [a.r x hx]; exact k1 _ (a.lt x hx) h, hs.gr hx⟩) (fun x hx h => ⟨by rw [a.u x hx]; exact k2 _ (a.lt x hx) h, hs.gu hx⟩) _ _ [bk s.1.length f 0] (by intro x hx; obtain rfl : x = bk s.1.length f 0 := (by simpa using hx); exact ⟨h0, i0⟩) _ hm).1
  rw [f_bk a.lt a.inj hy] at this
  exact this
theorem Sf.all_of {r u : List Nat} (hs : Sf r u) {S : Nat → Prop} {i : Nat} (hi : i < r.length) (h0 : S i) (h1 : ∀ x, x < r.length → S x → S (g r x)) (h2 : ∀ x, x < r.length → S x → S (g u x)) : ∀ y, y < r.length → S y := by
  intro y hy
  have hm := (reach_full hs hi).2 y hy
  exact (bfs_ind S (n := r.length) (fun x hx h => ⟨h1 x hx h, hs.gr hx⟩) (fun x hx h => ⟨h2 x hx h, hs.gu hx⟩) _ _ [i] (by intro x hx; obtain rfl : x = i := (by simpa using hx); exact ⟨h0, hi⟩) _ hm).1
theorem Is.ir {s t : List Nat × List Nat} {f : Nat → Nat} (hs : Sf s.1 s.2) (ht : Sf t.1 t.2) (a : Is s t f) {x : Nat} (hx : x < s.1.length) : f (ix s.1 x) = ix t.1 (f x) := by
  have h1 := hs.ir hx
  refine (ix_eq ht.pr (by rw [a.len]; exact a.lt _ h1) ?_).symm
  rw [← a.r _ h1, g_ix hs.pr hx]
theorem Is.iu {s t : List Nat × List Nat} {f : Nat → Nat} (hs : Sf s.1 s.2) (ht : Sf t.1 t.2) (a : Is s t f) {x : Nat} (hx : x < s.1.length) : f (ix s.2 x) = ix t.2 (f x) := by
  have h1 := hs.iu hx
  refine (ix_eq ht.pu (by rw [ht.eq, a.len]; exact a.lt _ h1) ?_).symm
  rw [← a.u _ h1, g_ix hs.pu (by rw [hs.eq]; exact hx)]
end Go.Proofs.Ytcggfjpnfodbaaa.M
end
section
/- The tests of permutations, program and reference, come to one plain test. No conditions. -/
namespace Go.Proofs.Ytcggfjpnfodbaaa.M
set_option linter.unusedVariables false
set_option linter.unusedSimpArgs false
open Go.RowKit Go.Proofs.YtcggfjpnfodbaaaW.PrintWords Go.Proofs.YtcggfjpnfodbaaaW.PrintLast Go.Proofs.YtcggfjpnfodbaaaW.PrintMore Go.Proofs.Ytcggfjpnfodbaaa.A
theorem has_ev (l : List Int) (a : Int) (hl : l.length ≤ 1000000000) : Ev (fun k => spec_l02Has.f k l a) (decide (a ∈ l)) := by
  have H : ∀ d i : Nat, i + d = l.length → Ev (fun k => spec_l02Has.l0 k a l (l.length : Int) (i : Int)) (decide (a ∈ l.drop i)) := by
    intro d
    induction d with
    | zero =>
      intro i h
      refine ev_succ ?_
      have h1 : ¬ ((i : Int) < (l.length : Int)) := by omega
      have e : decide (a ∈ l.drop i) = false := by
        rw [List.drop_of_length_le (by omega)]
        simp
      simp only [spec_l02Has.l0, h1, if_false]
      rw [e]
      exact Ev.now _
    | succ d ih =>
      intro i h
      refine ev_succ ?_
      have hi : i < l.length := by omega
      have h1 : (i : Int) < (l.length : Int) := by omega
      have h2 : (0 : Int) ≤ (i : Int) := by omega
      have h3 := w64s i (by omega)
      have e := List.drop_eq_getElem_cons hi
      rw [← rd_get l i hi] at e
      by_cases hr : rd l (i : Int) = a
      · have e2 : decide (a ∈ l.drop i) = true := by rw [e, hr]; simp
        simp only [spec_l02Has.l0, h1, h2, hr, if_true]
        rw [e2]
        exact Ev.now _
      · have e2 : decide (a ∈ l.drop i) = decide (a ∈ l.drop (i + 1)) := by
          rw [e]
          have : ¬ a = rd l (i : Int) := fun h => hr h.symm
          simp [this]
        simp only [spec_l02Has.l0, h1, h2, h3, hr, if_true, if_false]
        rw [e2]
        exact ih (i + 1) (by omega)
  have := H l.length 0 (by omega)
  simpa [spec_l02Has.f] using this
theorem in_f (x : Int) (n : Nat) (hn : n ≤ 24) : spec_l01In.f x 0 (wrap64 ((n : Int) - 1)) = some (decide (0 ≤ x ∧ x < (n : Int))) := by
  unfold spec_l01In.f
  rw [w64 (by omega) (by omega)]
  by_cases h : x ≥ 0
  · rw [if_pos h]
    congr 1
    rw [Bool.eq_iff_iff, decide_eq_true_iff, decide_eq_true_iff]
    omega
  · rw [if_neg h]
    congr 1
    symm
    rw [decide_eq_false_iff_not]
    omega
theorem spec_permOk (l : List Int) : Ev (fun k => spec_PermOk.f k l) (permB l) := by
  unfold spec_PermOk.f
  by_cases h24 : (l.length : Int) > 24
  · simp only [h24, if_true]
    have : permB l = false := by
      unfold permB
      rw [decide_eq_false_iff_not]
      intro h
      have := h.1
      omega
    rw [this]
    exact Ev.now _
  · simp only [h24, if_false]
    have H : ∀ d i : Nat, i + d = l.length → ∃ b, Ev (fun k => spec_PermOk.l0 k l l (l.length : Int) (i : Int)) b ∧ (b = true ↔ okFrom l i) := by
      intro d
      induction d with
      | zero =>
        intro i h
        refine ⟨true, ev_succ ?_, by simp [okFrom_end l i (by omega)]⟩
        have h1 : ¬ ((i : Int) < (l.length : Int)) := by omega
        simp only [spec_PermOk.l0, h1, if_false]
        exact Ev.now _
      | succ d ih =>
        intro i h
        have hi : i < l.length := by omega
        have h1 : (i : Int) < (l.length : Int) := by omega
        have h1' : (i : Int) ≤ (l.length : Int) := by omega
        have h2 : (0 : Int) ≤ (i : Int) := by omega
        have h3 := w64s i (by omega)
        have hin := in_f (rd l (i : Int)) l.length (by omega)
        by_cases c1 : 0 ≤ rd l (i : Int) ∧ rd l (i : Int) < (l.length : Int)
        · have hh := has_ev (l.take i) (rd l (i : Int)) (by rw [List.length_take]; omega)
          by_cases c2 : rd l (i : Int) ∈ l.take i
          · refine ⟨false, ev_succ ?_, by simpa using okFrom_not hi (fun h => h.2.2 c2)⟩
            simp only [spec_PermOk.l0, h1, h1', h2, hin, c1, if_true, Option.bind_some, decide_true, Int.toNat_natCast, and_self]
            refine Ev.bind hh ?_
            simp only [c2, decide_true, if_true]
            exact Ev.now _
          · obtain ⟨b, i1, i2⟩ := ih (i + 1) (by omega)
            refine ⟨b, ev_succ ?_, by rw [i2]; exact (okFrom_step ⟨c1.1, c1.2, c2⟩).symm⟩
            simp only [spec_PermOk.l0, h1, h1', h2, h3, hin, c1, if_true, Option.bind_some, decide_true, Int.toNat_natCast, and_self]
            refine Ev.bind hh ?_
            simp only [c2, decide_false, Bool.false_eq_true, if_false]
            exact i1
        · refine ⟨false, ev_succ ?_, by simpa using okFrom_not hi (fun h => c1 ⟨h.1, h.2.1⟩)⟩
          simp only [spec_PermOk.l0, h1, h2, hin, c1, if_true, if_false, Option.bind_some, decide_false, Bool.false_eq_true]
          exact Ev.now _
    obtain ⟨b, i1, i2⟩ := H l.length 0 (by omega)
    rw [← permB_of (by omega) i2]
    exact i1
theorem rdOf_nat (s : List Bool) (x : Nat) : rdOf false s (x : Int) = s.getD x false := rfl
theorem getD_set (s : List Bool) (x y : Nat) (h : x < s.length) : (s.set x true).getD y false = if x = y then true else s.getD y false := by
  rw [List.getD_eq_getElem?_getD, List.getD_eq_getElem?_getD, List.getElem?_set]
  by_cases e : x = y
  · subst e
    simp [h]
  · simp [e]
theorem impl_permOk (l : List Int) : Ev (fun k => impl_PermOk.f k l) (permB l) := by
  unfold impl_PermOk.f
  by_cases h24 : (l.length : Int) > 24
  · simp only [h24, if_true]
    have : permB l = false := by
      unfold permB
      rw [decide_eq_false_iff_not]
      intro h
      have := h.1
      omega
    rw [this]
    exact Ev.now _
  · simp only [h24, if_false]
    have H : ∀ (d i : Nat) (s : List Bool), i + d = l.length → s.length = 24 → (∀ x : Nat, x < 24 → (s.getD x false = true ↔ (x : Int) ∈ l.take i)) → ∃ b, Ev (fun k => impl_PermOk.l0 k l s (i : Int)) b ∧ (b = true ↔ okFrom l i) := by
      intro d
      induction d with
      | zero =>
        intro i s h hs hx
        refine ⟨true, ev_succ ?_, by simp [okFrom_end l i (by omega)]⟩
        have h1 : ¬ ((i : Int) < (l.length : Int)) := by omega
        simp only [impl_PermOk.l0, h1, if_false]
        exact Ev.now _
      | succ d ih =>
        intro i s h hs hx
        have hi : i < l.length := by omega
        have h1 : (i : Int) < (l.length : Int) := by omega
        have h2 : (0 : Int) ≤ (i : Int) := by omega
        have h3 := w64s i (by omega)
        by_cases c1 : rd l (i : Int) < 0
        · refine ⟨false, ev_succ ?_, by simpa using okFrom_not hi (fun h => by omega)⟩
          simp only [impl_PermOk.l0, h1, h2, c1, if_true]
          exact Ev.now _
        · by_cases c2 : rd l (i : Int) ≥ (l.length : Int)
          · refine ⟨false, ev_succ ?_, by simpa using okFrom_not hi (fun h => by omega)⟩
            simp only [impl_PermOk.l0, h1, h2, c1, c2, if_true, if_false]
            exact Ev.now _
          · obtain ⟨x, ex⟩ : ∃ x : Nat, rd l (i : Int) = (x : Int) := ⟨(rd l (i : Int)).toNat, by omega⟩
            have hx24 : x < 24 := by omega
            by_cases c3 : s.getD x false = true
            · have hm := (hx x hx24).mp c3
              refine ⟨false, ev_succ ?_, by simpa using okFrom_not hi (fun h => h.2.2 (by rw [ex]; exact hm))⟩
              rw [ex] at c1 c2
              simp only [impl_PermOk.l0, h1, h2, ex, c1, c2, rdOf_nat, c3, if_true, if_false]
              exact Ev.now _
            · have hm : (x : Int) ∉ l.take i := fun h => c3 ((hx x hx24).mpr h)
              obtain ⟨b, i1, i2⟩ := ih (i + 1) (s.set x true) (by omega) (by rw [List.length_set]; exact hs) (fun y hy => by
                rw [getD_set s x y (by omega), take_succ l i hi, ex]
                by_cases e : x = y
                · subst e
                  simp
                · rw [if_neg e, hx y hy]
                  have : ¬ (y : Int) = (x : Int) := by omega
                  simp [this])
              refine ⟨b, ev_succ ?_, by rw [i2]; exact (okFrom_step ⟨by omega, by omega, by rw [ex]; exact hm⟩).symm⟩
              rw [ex] at c1 c2
              simp only [impl_PermOk.l0, h1, h2, h3, ex, c1, c2, rdOf_nat, c3, if_true, if_false, Int.toNat_natCast]
              exact i1
    obtain ⟨b, i1, i2⟩ := H l.length 0 (List.replicate 24 false) (by omega) rfl (fun x hx => by
      have : (List.replicate 24 false).getD x false = false := by
        rw [List.getD_eq_getElem?_getD, List.getElem?_replicate]
        simp [hx]
      rw [this]
      simp)
    rw [← permB_of (by omega) i2]
    exact i1
end Go.Proofs.Ytcggfjpnfodbaaa.M
end
section
/- The tests of surfaces, program and reference, come to one plain test. No conditions. -/
namespace Go.Proofs.Ytcggfjpnfodbaaa.M
set_option linter.unusedVariables false
set_option linter.unusedSimpArgs false
open Go.RowKit Go.Proofs.YtcggfjpnfodbaaaW.PrintWords Go.Proofs.YtcggfjpnfodbaaaW.PrintLast Go.Proofs.YtcggfjpnfodbaaaW.PrintMore Go.Proofs.Ytcggfjpnfodbaaa.A
theorem I_pair (a b : Nat) : ([(a : Int), (b : Int)] : List Int) = I [a, b] := rfl
theorem I_len' (l : List Nat) : ((I l).length : Int) = (l.length : Int) := by rw [I_len]
theorem st1_I (out : List Nat) (x : Nat) : I (st1 out x) = if (x : Int) ∈ I out then I out else I out ++ [(x : Int)] := by
  unfold st1
  by_cases h : x ∈ out
  · rw [if_pos h, if_pos (mem_I.mpr h)]
  · rw [if_neg h, if_neg (fun k => h (mem_I.mp k)), I_snoc]
theorem reach_one (p q out pr : List Nat) (a : Nat) (j : Nat) (hj : j < pr.length) (hp : pr.length ≤ 2) (hl : out.length ≤ 1000) (r : List Int)
    (H : Ev (fun k => spec_l02Reach.l1 k (I p) (I q) (I (st1 out (g pr j))) (a : Int) (I pr) (pr.length : Int) ((j + 1 : Nat) : Int)) r) :
    Ev (fun k => spec_l02Reach.l1 k (I p) (I q) (I out) (a : Int) (I pr) (pr.length : Int) (j : Int)) r := by
  refine ev_succ ?_
  have h1 : (j : Int) < (pr.length : Int) := by omega
  have h2 : (0 : Int) ≤ (j : Int) := by omega
  have h3 := w64s j (by omega)
  have h4 : (I out).length < 17592186044416 := by rw [I_len]; omega
  have hh := has_ev (I out) ((g pr j : Nat) : Int) (by rw [I_len]; omega)
  simp only [spec_l02Reach.l1, h1, h2, h3, h4, rdI, I_len', if_true]
  refine Ev.bind hh ?_
  rw [st1_I] at H
  by_cases hm : ((g pr j : Nat) : Int) ∈ I out
  · rw [if_pos hm] at H
    simp only [hm, decide_true, if_true]
    exact H
  · rw [if_neg hm] at H
    simp only [hm, decide_false, Bool.false_eq_true, if_false]
    exact H
theorem reach_loop {p q : List Nat} (hp : IsP p) (hq : IsP q) (hl : q.length = p.length) (h24 : p.length ≤ 24) (f : Nat) : ∀ (a : Nat) (out : List Nat), RInv p.length out → a ≤ out.length → p.length < f + a →
    Ev (fun k => spec_l02Reach.l0 k (I p) (I q) (I out) (a : Int)) (I (bfs p q f a out)) := by
  induction f with
  | zero =>
    intro a out hr ha hf
    have := hr.le
    omega
  | succ f ih =>
    intro a out hr ha hf
    have hle := hr.le
    refine ev_succ ?_
    by_cases h : a < out.length
    · have h1 : (a : Int) < (out.length : Int) := by omega
      have h2 : (0 : Int) ≤ (a : Int) := by omega
      have hx := hr.g h
      have h3 : ((g out a : Nat) : Int) < (p.length : Int) := by omega
      have h4 : (0 : Int) ≤ ((g out a : Nat) : Int) := by omega
      have h5 : ((g out a : Nat) : Int) < (q.length : Int) := by omega
      have h6 := w64s a (by omega)
      simp only [spec_l02Reach.l0, h1, h2, h3, h4, h5, rdI, I_len', if_true, Option.bind_some, I_pair]
      have r1 := hr.st (g_lt hp hx)
      have r2 := r1.st (x := g q (g out a)) (by have := g_lt hq (i := g out a) (by omega); omega)
      have hb : bfs p q (f + 1) a out = bfs p q f (a + 1) (st1 (st1 out (g p (g out a))) (g q (g out a))) := by
        rw [bfs, if_pos h]
      rw [hb]
      have i1 := ih (a + 1) _ r2 (by have := st1_len out (g p (g out a)); have := st1_len (st1 out (g p (g out a))) (g q (g out a)); omega) (by omega)
      refine reach_one p q out [g p (g out a), g q (g out a)] a 0 (by simp) (by simp) (by omega) _ ?_
      refine reach_one p q _ [g p (g out a), g q (g out a)] a 1 (by simp) (by simp) (by have := r1.le; simp only [g, List.getD_cons_zero] at this ⊢; omega) _ ?_
      refine ev_succ ?_
      have h7 : ¬ (((1 + 1 : Nat) : Int) < (([g p (g out a), g q (g out a)] : List Nat).length : Int)) := by simp
      simp only [spec_l02Reach.l1, h7, h6, if_false]
      exact i1
    · have h1 : ¬ ((a : Int) < (out.length : Int)) := by omega
      have hb : bfs p q (f + 1) a out = out := by rw [bfs, if_neg h]
      rw [hb]
      simp only [spec_l02Reach.l0, h1, I_len', if_false]
      exact Ev.now _
theorem reach_ev {p q : List Nat} (hp : IsP p) (hq : IsP q) (hl : q.length = p.length) (h24 : p.length ≤ 24) (s : Nat) (hs : s < p.length) : Ev (fun k => spec_l02Reach.f k (I p) (I q) (s : Int)) (I (reach p q s)) := by
  unfold spec_l02Reach.f reach
  exact reach_loop hp hq hl h24 (p.length + 1) 0 [s] ⟨by simp, by simpa using hs⟩ (by simp) (by omega)
theorem len_ne_false {r u : List Int} (h : r.length ≠ u.length) : surfB r u = false := by
  unfold surfB
  simp [h]
theorem surfB_mk {r u : List Int} (h1 : permB r = true) (h2 : permB u = true) (h3 : r.length = u.length) (h4 : 0 < r.length) : surfB r u = ((reach (N r) (N u) 0).length == r.length) := by
  unfold surfB
  simp [h1, h2, h3, h4]
  intro _
  omega
theorem spec_trans (r u : List Int) : Ev (fun k => spec_IsTransitive.f k r u) (surfB r u) := by
  unfold spec_IsTransitive.f
  refine Ev.bind (spec_permOk r) ?_
  by_cases h1 : permB r = true
  · simp only [h1, if_true]
    refine Ev.bind (spec_permOk u) ?_
    by_cases h2 : permB u = true
    · simp only [h2, if_true]
      by_cases h3 : (r.length : Int) = (u.length : Int)
      · have h3' : r.length = u.length := by omega
        by_cases h4 : (r.length : Int) > 0
        · have h4' : 0 < r.length := by omega
          rw [surfB_mk h1 h2 h3' h4']
          obtain ⟨p, rfl, a1, a2⟩ := PI_nat (of_decide_eq_true h1)
          obtain ⟨q, rfl, b1, b2⟩ := PI_nat (of_decide_eq_true h2)
          rw [I_len, I_len] at h3'
          rw [I_len] at h4'
          have := reach_ev a1 b1 h3'.symm a2 0 h4'
          simp only [h3, h4, if_true]
          rw [h3] at h4
          simp only [h4, if_true]
          refine Ev.bind this ?_
          rw [N_I, N_I]
          have e : (((I (reach p q 0)).length : Int) == ((I q).length : Int)) = ((reach p q 0).length == (I p).length) := by
            rw [I_len, I_len, I_len, Bool.eq_iff_iff, beq_iff_eq, beq_iff_eq]
            omega
          rw [← h3] at e
          simp only [h3] at e
          rw [← e]
          exact Ev.now _
        · simp only [h3, if_true]
          rw [h3] at h4
          simp only [h4, if_false]
          have : surfB r u = false := by
            unfold surfB
            have : ¬ 0 < r.length := by omega
            simp [this]
          rw [this]
          exact Ev.now _
      · simp only [h3, if_false]
        rw [len_ne_false (by omega)]
        exact Ev.now _
    · have h2' := Bool.eq_false_iff.mpr h2
      simp only [h2', Bool.false_eq_true, if_false]
      have : surfB r u = false := by unfold surfB; simp [h2']
      rw [this]
      exact Ev.now _
  · have h1' := Bool.eq_false_iff.mpr h1
    simp only [h1', Bool.false_eq_true, if_false]
    have : surfB r u = false := by unfold surfB; simp [h1']
    rw [this]
    exact Ev.now _
theorem spec_surf (r u : List Int) : Ev (fun k => spec_SurfaceOk.f k r u) (surfB r u) := by
  unfold spec_SurfaceOk.f
  exact Ev.bind (spec_trans r u) (Ev.now _)
def Marks (n : Nat) (s : List Bool) (out : List Nat) : Prop := s.length = n ∧ ∀ x, x < n → (s.getD x false = true ↔ x ∈ out)
theorem Marks.add {n : Nat} {s : List Bool} {out : List Nat} {x : Nat} (h : Marks n s out) (hx : x < n) : Marks n (s.set x true) (out ++ [x]) := by
  refine ⟨by rw [List.length_set]; exact h.1, fun y hy => ?_⟩
  rw [getD_set s x y (by rw [h.1]; exact hx)]
  by_cases e : x = y
  · subst e
    simp
  · rw [if_neg e, h.2 y hy]
    have : ¬ y = x := fun k => e k.symm
    simp [this]
theorem trans_one (p q out pr : List Nat) (s : List Bool) (a : Nat) (j : Nat) (hj : j < pr.length) (hp : pr.length ≤ 2) (hl : out.length ≤ 1000) (hm : Marks p.length s out) (hx : g pr j < p.length) (r : Bool)
    (H : ∀ s', Marks p.length s' (st1 out (g pr j)) → Ev (fun k => impl_IsTransitive.l1 k (I p) (I q) s' (I (st1 out (g pr j))) (a : Int) (I pr) (pr.length : Int) ((j + 1 : Nat) : Int)) r) :
    Ev (fun k => impl_IsTransitive.l1 k (I p) (I q) s (I out) (a : Int) (I pr) (pr.length : Int) (j : Int)) r := by
  refine ev_succ ?_
  have h1 : (j : Int) < (pr.length : Int) := by omega
  have h2 : (0 : Int) ≤ (j : Int) := by omega
  have h3 := w64s j (by omega)
  have h4 : (I out).length < 17592186044416 := by rw [I_len]; omega
  have h5 : (0 : Int) ≤ ((g pr j : Nat) : Int) := by omega
  have h6 : ((g pr j : Nat) : Int) < (s.length : Int) := by rw [hm.1]; omega
  simp only [impl_IsTransitive.l1, h1, h2, h3, h4, h5, h6, rdI, I_len', rdOf_nat, if_true, Int.toNat_natCast]
  by_cases hin : g pr j ∈ out
  · have hs := (hm.2 _ hx).mpr hin
    have e : st1 out (g pr j) = out := by unfold st1; rw [if_pos hin]
    have := H s (by rw [e]; exact hm)
    rw [e] at this
    simp only [hs, if_true]
    exact this
  · have hs : s.getD (g pr j) false = false := Bool.eq_false_iff.mpr (fun h => hin ((hm.2 _ hx).mp h))
    have e : st1 out (g pr j) = out ++ [g pr j] := by unfold st1; rw [if_neg hin]
    have := H (s.set (g pr j) true) (by rw [e]; exact hm.add hx)
    rw [e, ← I_snoc] at this
    simp only [hs, Bool.false_eq_true, if_false]
    exact this
theorem trans_loop {p q : List Nat} (hp : IsP p) (hq : IsP q) (hl : q.length = p.length) (h24 : p.length ≤ 24) (f : Nat) : ∀ (a : Nat) (out : List Nat) (s : List Bool), RInv p.length out → Marks p.length s out → a ≤ out.length → p.length < f + a →
    Ev (fun k => impl_IsTransitive.l0 k (I p) (I q) s (I out) (a : Int)) ((bfs p q f a out).length == p.length) := by
  induction f with
  | zero =>
    intro a out s hr hm ha hf
    have := hr.le
    omega
  | succ f ih =>
    intro a out s hr hm ha hf
    have hle := hr.le
    refine ev_succ ?_
    by_cases h : a < out.length
    · have h1 : (a : Int) < (out.length : Int) := by omega
      have h2 : (0 : Int) ≤ (a : Int) := by omega
      have hx := hr.g h
      have h3 : ((g out a : Nat) : Int) < (p.length : Int) := by omega
      have h4 : (0 : Int) ≤ ((g out a : Nat) : Int) := by omega
      have h5 : ((g out a : Nat) : Int) < (q.length : Int) := by omega
      have h6 := w64s a (by omega)
      simp only [impl_IsTransitive.l0, h1, h2, h3, h4, h5, rdI, I_len', if_true, Option.bind_some, I_pair]
      have hg1 := g_lt hp hx
      have hg2 : g q (g out a) < p.length := by have := g_lt hq (i := g out a) (by omega); omega
      have r1 := hr.st hg1
      have r2 := r1.st hg2
      have hb : bfs p q (f + 1) a out = bfs p q f (a + 1) (st1 (st1 out (g p (g out a))) (g q (g out a))) := by
        rw [bfs, if_pos h]
      rw [hb]
      refine trans_one p q out [g p (g out a), g q (g out a)] s a 0 (by simp) (by simp) (by omega) hm hg1 _ (fun s1 hm1 => ?_)
      refine trans_one p q _ [g p (g out a), g q (g out a)] s1 a 1 (by simp) (by simp) (by have := r1.le; simp only [g, List.getD_cons_zero] at this ⊢; omega) hm1 hg2 _ (fun s2 hm2 => ?_)
      refine ev_succ ?_
      have h7 : ¬ (((1 + 1 : Nat) : Int) < (([g p (g out a), g q (g out a)] : List Nat).length : Int)) := by simp
      simp only [impl_IsTransitive.l1, h7, h6, if_false]
      exact ih (a + 1) _ s2 r2 hm2 (Nat.le_trans (by omega : a + 1 ≤ out.length) (Nat.le_trans (st1_len _ _) (st1_len _ _))) (by omega)
    · have h1 : ¬ ((a : Int) < (out.length : Int)) := by omega
      have hb : bfs p q (f + 1) a out = out := by rw [bfs, if_neg h]
      rw [hb]
      simp only [impl_IsTransitive.l0, h1, I_len', if_false]
      have e : ((out.length : Int) == (p.length : Int)) = (out.length == p.length) := by
        rw [Bool.eq_iff_iff, beq_iff_eq, beq_iff_eq]
        omega
      rw [e]
      exact Ev.now _
theorem j0_true (r u : List Int) : Ev (fun k => impl_IsTransitive.j0 k r u true) false := by
  refine ev_succ ?_
  simp only [impl_IsTransitive.j0, if_true]
  exact Ev.now _
theorem impl_trans (r u : List Int) : Ev (fun k => impl_IsTransitive.f k r u) (surfB r u) := by
  unfold impl_IsTransitive.f
  refine Ev.bind (impl_permOk r) ?_
  by_cases h1 : permB r = true
  · simp only [h1, if_true]
    refine Ev.bind (impl_permOk u) ?_
    by_cases h2 : permB u = true
    · simp only [h2, if_true]
      by_cases h3 : (r.length : Int) = (u.length : Int)
      · have h3' : r.length = u.length := by omega
        simp only [h3, if_true]
        by_cases h4 : 0 < r.length
        · rw [surfB_mk h1 h2 h3' h4]
          obtain ⟨p, rfl, a1, a2⟩ := PI_nat (of_decide_eq_true h1)
          obtain ⟨q, rfl, b1, b2⟩ := PI_nat (of_decide_eq_true h2)
          rw [I_len, I_len] at h3'
          rw [I_len] at h4
          refine ev_succ ?_
          have e0 : ((q.length : Int) == 0) = false := by rw [beq_eq_false_iff_ne]; omega
          have e1 : (0 : Int) ≤ (p.length : Int) := by omega
          have e2 : ((p.length : Int)).toNat ≤ 281474976710656 := by omega
          have e3 : (0 : Int) < ((List.replicate p.length false).length : Int) := by rw [List.length_replicate]; omega
          simp only [impl_IsTransitive.j0, e0, I_len', e1, e2, Bool.false_eq_true, if_true, if_false, Option.bind_some, Int.toNat_natCast, e3]
          simp only [Int.toNat_natCast] at e2
          simp only [e2, if_true]
          rw [N_I, N_I, I_len]
          refine trans_loop a1 b1 h3'.symm a2 (p.length + 1) 0 [0] _ ⟨by simp, by simpa using h4⟩ ?_ (by simp) (by omega)
          refine ⟨by simp, fun x hx => ?_⟩
          have : (0 : Int).toNat = 0 := rfl
          rw [this, getD_set _ 0 x (by simp; omega)]
          by_cases e : 0 = x
          · subst e
            simp
          · rw [if_neg e]
            have h0 : ¬ x = 0 := fun h => e h.symm
            have : (List.replicate p.length false).getD x false = false := by
              rw [List.getD_eq_getElem?_getD, List.getElem?_replicate]
              simp [hx]
            rw [this]
            simp [h0]
        · have e0 : ((u.length : Int) == 0) = true := by rw [beq_iff_eq]; omega
          have : surfB r u = false := by unfold surfB; simp [h4]
          rw [this]
          simp only [e0]
          exact j0_true r u
      · simp only [h3, if_false]
        rw [len_ne_false (by omega)]
        exact j0_true r u
    · have h2' := Bool.eq_false_iff.mpr h2
      simp only [h2', Bool.false_eq_true, if_false]
      have : surfB r u = false := by unfold surfB; simp [h2']
      rw [this]
      exact j0_true r u
  · have h1' := Bool.eq_false_iff.mpr h1
    simp only [h1', Bool.false_eq_true, if_false]
    have : surfB r u = false := by unfold surfB; simp [h1']
    rw [this]
    exact j0_true r u
theorem impl_surf (r u : List Int) : Ev (fun k => impl_SurfaceOk.f k r u) (surfB r u) := by
  unfold impl_SurfaceOk.f
  exact Ev.bind (impl_trans r u) (Ev.now _)
end Go.Proofs.Ytcggfjpnfodbaaa.M
end
section
/- What every law does with its arguments; inverses. No conditions. -/
namespace Go.Proofs.Ytcggfjpnfodbaaa.M
set_option linter.unusedVariables false
set_option linter.unusedSimpArgs false
open Go.RowKit Go.Proofs.YtcggfjpnfodbaaaW.PrintWords Go.Proofs.YtcggfjpnfodbaaaW.PrintLast Go.Proofs.YtcggfjpnfodbaaaW.PrintMore Go.Proofs.Ytcggfjpnfodbaaa.A
theorem rd_set {l : List Int} {i j : Nat} {x : Int} (h : i < l.length) : rd (l.set i x) (j : Int) = if i = j then x else rd l (j : Int) := by
  unfold rd
  simp only [Int.toNat_natCast]
  rw [List.getD_eq_getElem?_getD, List.getD_eq_getElem?_getD, List.getElem?_set]
  by_cases e : i = j
  · subst e
    simp [h]
  · simp [e]
theorem ext_rd {a b : List Int} (hl : a.length = b.length) (h : ∀ i : Nat, i < a.length → rd a (i : Int) = rd b (i : Int)) : a = b := by
  apply List.ext_getElem hl
  intro i h1 h2
  rw [← rd_get a i h1, ← rd_get b i h2]
  exact h i h1
theorem toInts_ev (l : List Int) (h : l.length ≤ 1048576) : Ev (fun k => laws_toIntS.f k l) l := by
  unfold laws_toIntS.f
  have h1 : (0 : Int) ≤ (l.length : Int) := by omega
  have h2 : ((l.length : Int)).toNat ≤ 35184372088832 := by omega
  simp only [h1, h2, if_true]
  have H : ∀ (d i : Nat) (c : List Int), i + d = l.length → c.length = l.length → (∀ j : Nat, j < i → rd c (j : Int) = rd l (j : Int)) → Ev (fun k => laws_toIntS.l0 k l c (i : Int)) l := by
    intro d
    induction d with
    | zero =>
      intro i c h hc hx
      refine ev_succ ?_
      have h1 : ¬ ((i : Int) < (l.length : Int)) := by omega
      have e : c = l := ext_rd hc (fun j hj => hx j (by omega))
      simp only [laws_toIntS.l0, h1, if_false]
      rw [e]
      exact Ev.now _
    | succ d ih =>
      intro i c h hc hx
      refine ev_succ ?_
      have h1 : (i : Int) < (l.length : Int) := by omega
      have h2 : (0 : Int) ≤ (i : Int) := by omega
      have h3 : (i : Int) < (c.length : Int) := by omega
      have h4 := w64s i (by omega)
      simp only [laws_toIntS.l0, h1, h2, h3, h4, if_true, Int.toNat_natCast]
      refine ih (i + 1) _ (by omega) (by rw [List.length_set]; exact hc) (fun j hj => ?_)
      rw [rd_set (by omega)]
      by_cases e : i = j
      · subst e
        simp
      · rw [if_neg e]
        exact hx j (by omega)
  exact H l.length 0 _ (by omega) (by rw [List.length_replicate]; omega) (fun j hj => by omega)
theorem toSurf_ev (r u : List Int) (hr : r.length ≤ 1048576) (hu : u.length ≤ 1048576) : Ev (fun k => laws_toSurface.f k r u) (r, u) := by
  unfold laws_toSurface.f
  exact Ev.bind (toInts_ev r hr) (Ev.bind (toInts_ev u hu) (Ev.now _))
theorem eqInts_ev (a b : List Int) (ha : a.length ≤ 9000000000000000000) : Ev (fun k => laws_eqIntS.f k a b) (decide (a = b)) := by
  unfold laws_eqIntS.f
  by_cases hl : (a.length : Int) = (b.length : Int)
  · simp only [hl, if_true]
    have hl' : a.length = b.length := by omega
    have H : ∀ d i : Nat, i + d = a.length → ∃ c, Ev (fun k => laws_eqIntS.l0 k a b (i : Int)) c ∧ (c = true ↔ ∀ j : Nat, i ≤ j → j < a.length → rd a (j : Int) = rd b (j : Int)) := by
      intro d
      induction d with
      | zero =>
        intro i h
        refine ⟨true, ev_succ ?_, by simp; intro j h1 h2; omega⟩
        have h1 : ¬ ((i : Int) < (a.length : Int)) := by omega
        simp only [laws_eqIntS.l0, h1, if_false]
        exact Ev.now _
      | succ d ih =>
        intro i h
        have h1 : (i : Int) < (a.length : Int) := by omega
        have h2 : (0 : Int) ≤ (i : Int) := by omega
        have h3 : (i : Int) < (b.length : Int) := by omega
        have h4 := w64s i (by omega)
        by_cases c : rd a (i : Int) = rd b (i : Int)
        · obtain ⟨c', i1, i2⟩ := ih (i + 1) (by omega)
          refine ⟨c', ev_succ ?_, by
            rw [i2]
            constructor
            · intro k j j1 j2
              by_cases e : j = i
              · subst e; exact c
              · exact k j (by omega) j2
            · intro k j j1 j2
              exact k j (by omega) j2⟩
          simp only [laws_eqIntS.l0, h1, h2, h3, h4, c, if_true]
          exact i1
        · refine ⟨false, ev_succ ?_, by
            simp only [Bool.false_eq_true, false_iff]
            intro k
            exact c (k i (Nat.le_refl _) (by omega))⟩
          simp only [laws_eqIntS.l0, h1, h2, h3, c, if_true, if_false]
          exact Ev.now _
    obtain ⟨c, i1, i2⟩ := H a.length 0 (by omega)
    have : decide (a = b) = c := by
      rw [Bool.eq_iff_iff, i2, decide_eq_true_iff]
      constructor
      · intro e j _ _
        rw [e]
      · intro k
        exact ext_rd hl' (fun j hj => k j (Nat.zero_le _) hj)
    rw [this]
    exact i1
  · simp only [hl, if_false]
    have : decide (a = b) = false := by
      rw [decide_eq_false_iff_not]
      intro e
      exact hl (by rw [e])
    rw [this]
    exact Ev.now _
theorem eqInts_same (a : List Int) (ha : a.length ≤ 9000000000000000000) : Ev (fun k => laws_eqIntS.f k a a) true := by
  have := eqInts_ev a a ha
  simpa using this
theorem eqSurf_same (r u : List Int) (hr : r.length ≤ 9000000000000000000) (hu : u.length ≤ 9000000000000000000) : Ev (fun k => laws_eqSurface.f k r u r u) true := by
  unfold laws_eqSurface.f
  refine Ev.bind (eqInts_same r hr) ?_
  simp only [if_true]
  refine Ev.bind (eqInts_same u hu) ?_
  simp only [if_true]
  exact Ev.now _
theorem inv_of {p c : List Nat} (hp : IsP p) (hc : c.length = p.length) (h : ∀ j, j < p.length → g c (g p j) = j) : c = inv p := by
  refine ext_g (by rw [inv_len, hc]) (fun x hx => ?_)
  rw [hc] at hx
  rw [g_inv hx]
  have := h (ix p x) (ix_lt hp hx)
  rw [g_ix hp hx] at this
  exact this
theorem inv_step {p c : List Nat} (hp : IsP p) {i : Nat} (hi : i < p.length) (hc : c.length = p.length) (h : ∀ j, j < i → g c (g p j) = j) : ∀ j, j < i + 1 → g (c.set (g p i) i) (g p j) = j := by
  intro j hj
  rw [g_set (by rw [hc]; exact g_lt hp hi)]
  by_cases e : j = i
  · subst e
    simp
  · rw [if_neg (fun k => e (g_inj hp (by omega) hi k.symm))]
    exact h j (by omega)
theorem spec_inv {p : List Nat} (hp : IsP p) (h24 : p.length ≤ 24) : Ev (fun k => spec_l02Inverse.f k (I p)) (I (inv p)) := by
  unfold spec_l02Inverse.f
  have H : ∀ (d i : Nat) (c : List Nat), i + d = p.length → c.length = p.length → (∀ j, j < i → g c (g p j) = j) → Ev (fun k => spec_l02Inverse.l0 k (I c) (I p) (p.length : Int) (i : Int)) (I (inv p)) := by
    intro d
    induction d with
    | zero =>
      intro i c h hc hx
      refine ev_succ ?_
      have h1 : ¬ ((i : Int) < (p.length : Int)) := by omega
      rw [← inv_of hp hc (fun j hj => hx j (by omega))]
      simp only [spec_l02Inverse.l0, h1, if_false]
      exact Ev.now _
    | succ d ih =>
      intro i c h hc hx
      refine ev_succ ?_
      have hi : i < p.length := by omega
      have h1 : (i : Int) < (p.length : Int) := by omega
      have h2 : (0 : Int) ≤ (i : Int) := by omega
      have h3 := w64s i (by omega)
      have h4 : (0 : Int) ≤ ((g p i : Nat) : Int) := by omega
      have h5 : ((g p i : Nat) : Int) < (c.length : Int) := by have := g_lt hp hi; omega
      simp only [spec_l02Inverse.l0, h1, h2, h3, h4, h5, rdI, I_len', I_set, if_true, Int.toNat_natCast]
      exact ih (i + 1) _ (by omega) (by rw [List.length_set]; exact hc) (inv_step hp hi hc hx)
  have h1 : (0 : Int) ≤ (p.length : Int) := by omega
  have h2 : p.length ≤ 35184372088832 := by omega
  simp only [I_len', h1, h2, if_true, Int.toNat_natCast]
  have := H p.length 0 (List.replicate p.length 0) (by omega) (by simp) (fun j hj => by omega)
  rw [I_rep] at this
  exact this
theorem impl_inv {p : List Nat} (hp : IsP p) (h24 : p.length ≤ 24) : Ev (fun k => impl_InversePerm.f k (I p)) (I (inv p)) := by
  unfold impl_InversePerm.f
  have H : ∀ (d i : Nat) (c : List Nat), i + d = p.length → c.length = p.length → (∀ j, j < i → g c (g p j) = j) → Ev (fun k => impl_InversePerm.l0 k (I c) (I p) (p.length : Int) (i : Int)) (I (inv p)) := by
    intro d
    induction d with
    | zero =>
      intro i c h hc hx
      refine ev_succ ?_
      have h1 : ¬ ((i : Int) < (p.length : Int)) := by omega
      rw [← inv_of hp hc (fun j hj => hx j (by omega))]
      simp only [impl_InversePerm.l0, h1, if_false]
      exact Ev.now _
    | succ d ih =>
      intro i c h hc hx
      refine ev_succ ?_
      have hi : i < p.length := by omega
      have h1 : (i : Int) < (p.length : Int) := by omega
      have h2 : (0 : Int) ≤ (i : Int) := by omega
      have h3 := w64s i (by omega)
      have h4 : (0 : Int) ≤ ((g p i : Nat) : Int) := by omega
      have h5 : ((g p i : Nat) : Int) < (c.length : Int) := by have := g_lt hp hi; omega
      simp only [impl_InversePerm.l0, h1, h2, h3, h4, h5, rdI, I_len', I_set, if_true, Int.toNat_natCast]
      exact ih (i + 1) _ (by omega) (by rw [List.length_set]; exact hc) (inv_step hp hi hc hx)
  refine Ev.bind (impl_permOk (I p)) ?_
  have h0 : permB (I p) = true := permB_I.mpr ⟨hp, h24⟩
  have h1 : (0 : Int) ≤ (p.length : Int) := by omega
  have h2 : p.length ≤ 35184372088832 := by omega
  simp only [h0, I_len', h1, h2, if_true, Int.toNat_natCast]
  have := H p.length 0 (List.replicate p.length 0) (by omega) (by simp) (fun j hj => by omega)
  rw [I_rep] at this
  exact this
end Go.Proofs.Ytcggfjpnfodbaaa.M
end
section
/- Names from a square, and renaming: the program and the reference act alike. No conditions. -/
namespace Go.Proofs.Ytcggfjpnfodbaaa.M
set_option linter.unusedVariables false
set_option linter.unusedSimpArgs false
open Go.RowKit Go.Proofs.YtcggfjpnfodbaaaW.PrintWords Go.Proofs.YtcggfjpnfodbaaaW.PrintLast Go.Proofs.YtcggfjpnfodbaaaW.PrintMore Go.Proofs.Ytcggfjpnfodbaaa.A
theorem set_mid5 {α : Type} (p : List α) (x y : α) (xs : List α) : (p ++ x :: xs).set p.length y = p ++ y :: xs := by
  induction p with
  | nil => rfl
  | cons a p ih => simp [ih]
theorem isP_reach {r u : List Nat} (hs : Sf r u) {s : Nat} (h : s < r.length) : IsP (reach r u s) ∧ (reach r u s).length = r.length := by
  obtain ⟨h1, h2⟩ := reach_full hs h
  have l1 := h1.le
  have l2 := nodup_sub_len5 (List.range r.length) (reach r u s) List.nodup_range (fun x hx => h2 x (List.mem_range.mp hx))
  rw [List.length_range] at l2
  have hl : (reach r u s).length = r.length := by omega
  exact ⟨⟨fun x hx => by rw [hl]; exact h1.lt x hx, h1.nd⟩, hl⟩
def nm (r u : List Nat) (s : Nat) : List Nat := inv (reach r u s)
theorem isP_nm {r u : List Nat} (hs : Sf r u) {s : Nat} (h : s < r.length) : IsP (nm r u s) ∧ (nm r u s).length = r.length := by
  obtain ⟨h1, h2⟩ := isP_reach hs h
  exact ⟨isP_inv h1, by unfold nm; rw [inv_len, h2]⟩
theorem ren_of {p q c : List Nat} (hq : IsP q) (hl : q.length = p.length) (hc : c.length = p.length) (h : ∀ j, j < p.length → g c (g q j) = g q (g p j)) : c = ren p q := by
  refine ext_g (by rw [ren_len, hc]) (fun x hx => ?_)
  rw [hc] at hx
  rw [g_ren hx]
  have hx' : ix q x < q.length := ix_lt hq (by omega)
  have := h (ix q x) (by omega)
  rw [g_ix hq (by omega)] at this
  exact this
theorem ren_step {p q c : List Nat} (hq : IsP q) (hl : q.length = p.length) {i : Nat} (hi : i < p.length) (hc : c.length = p.length) (h : ∀ j, j < i → g c (g q j) = g q (g p j)) : ∀ j, j < i + 1 → g (c.set (g q i) (g q (g p i))) (g q j) = g q (g p j) := by
  intro j hj
  have hlt : g q i < c.length := by rw [hc, ← hl]; exact g_lt hq (by omega)
  rw [g_set hlt]
  by_cases e : j = i
  · subst e
    simp
  · rw [if_neg (fun k => e (g_inj hq (by omega) (by omega) k.symm))]
    exact h j (by omega)
theorem spec_ren {p q : List Nat} (hp : IsP p) (hq : IsP q) (hl : q.length = p.length) (h24 : p.length ≤ 24) : Ev (fun k => spec_l02Rename.f k (I p) (I q)) (I (ren p q)) := by
  unfold spec_l02Rename.f
  have H : ∀ (d i : Nat) (c : List Nat), i + d = p.length → c.length = p.length → (∀ j, j < i → g c (g q j) = g q (g p j)) → Ev (fun k => spec_l02Rename.l0 k (I q) (I c) (I p) (p.length : Int) (i : Int)) (I (ren p q)) := by
    intro d
    induction d with
    | zero =>
      intro i c h hc hx
      refine ev_succ ?_
      have h1 : ¬ ((i : Int) < (p.length : Int)) := by omega
      rw [← ren_of hq hl hc (fun j hj => hx j (by omega))]
      simp only [spec_l02Rename.l0, h1, if_false]
      exact Ev.now _
    | succ d ih =>
      intro i c h hc hx
      refine ev_succ ?_
      have hi : i < p.length := by omega
      have k1 := g_lt hp hi
      have k2 := g_lt hq (i := i) (by omega)
      have h1 : (i : Int) < (p.length : Int) := by omega
      have h2 : (0 : Int) ≤ (i : Int) := by omega
      have h4 : (i : Int) < (q.length : Int) := by omega
      have h5 : (0 : Int) ≤ ((g p i : Nat) : Int) := by omega
      have h6 : ((g p i : Nat) : Int) < (q.length : Int) := by omega
      have h7 : (0 : Int) ≤ ((g q i : Nat) : Int) := by omega
      have h8 : ((g q i : Nat) : Int) < (c.length : Int) := by omega
      have h3 := w64s i (by omega)
      simp only [spec_l02Rename.l0, h1, h2, h3, h4, h5, h6, h7, h8, rdI, I_len', I_set, if_true, Int.toNat_natCast]
      exact ih (i + 1) _ (by omega) (by rw [List.length_set]; exact hc) (ren_step hq hl hi hc hx)
  have h1 : (0 : Int) ≤ (p.length : Int) := by omega
  have h2 : p.length ≤ 35184372088832 := by omega
  simp only [I_len', h1, h2, if_true, Int.toNat_natCast]
  have := H p.length 0 (List.replicate p.length 0) (by omega) (by simp) (fun j hj => by omega)
  rw [I_rep] at this
  exact this
theorem impl_ren {p q : List Nat} (hp : IsP p) (hq : IsP q) (hl : q.length = p.length) (h24 : p.length ≤ 24) : Ev (fun k => impl_RenamePerm.f k (I p) (I q)) (I (ren p q)) := by
  unfold impl_RenamePerm.f
  have H : ∀ (d i : Nat) (c : List Nat), i + d = p.length → c.length = p.length → (∀ j, j < i → g c (g q j) = g q (g p j)) → Ev (fun k => impl_RenamePerm.l0 k (I q) (I c) (I p) (p.length : Int) (i : Int)) (I (ren p q)) := by
    intro d
    induction d with
    | zero =>
      intro i c h hc hx
      refine ev_succ ?_
      have h1 : ¬ ((i : Int) < (p.length : Int)) := by omega
      rw [← ren_of hq hl hc (fun j hj => hx j (by omega))]
      simp only [impl_RenamePerm.l0, h1, if_false]
      exact Ev.now _
    | succ d ih =>
      intro i c h hc hx
      refine ev_succ ?_
      have hi : i < p.length := by omega
      have k1 := g_lt hp hi
      have k2 := g_lt hq (i := i) (by omega)
      have h1 : (i : Int) < (p.length : Int) := by omega
      have h2 : (0 : Int) ≤ (i : Int) := by omega
      have h4 : (i : Int) < (q.length : Int) := by omega
      have h5 : (0 : Int) ≤ ((g p i : Nat) : Int) := by omega
      have h6 : ((g p i : Nat) : Int) < (q.length : Int) := by omega
      have h7 : (0 : Int) ≤ ((g q i : Nat) : Int) := by omega
      have h8 : ((g q i : Nat) : Int) < (c.length : Int) := by omega
      have h3 := w64s i (by omega)
      simp only [impl_RenamePerm.l0, h1, h2, h3, h4, h5, h6, h7, h8, rdI, I_len', I_set, if_true, Int.toNat_natCast]
      exact ih (i + 1) _ (by omega) (by rw [List.length_set]; exact hc) (ren_step hq hl hi hc hx)
  have b1 : permB (I p) = true := permB_I.mpr ⟨hp, h24⟩
  have b2 : permB (I q) = true := permB_I.mpr ⟨hq, by omega⟩
  refine Ev.bind (impl_permOk _) ?_
  simp only [b1, if_true]
  refine Ev.bind (impl_permOk _) ?_
  have e : ((p.length : Int) != (q.length : Int)) = false := by rw [bne_eq_false_iff_eq]; omega
  simp only [b2, I_len', e, if_true]
  refine ev_succ ?_
  have h1 : (0 : Int) ≤ (p.length : Int) := by omega
  have h2 : p.length ≤ 35184372088832 := by omega
  simp only [impl_RenamePerm.j0, I_len', h1, h2, Bool.false_eq_true, if_false, if_true, Int.toNat_natCast]
  have := H p.length 0 (List.replicate p.length 0) (by omega) (by simp) (fun j hj => by omega)
  rw [I_rep] at this
  exact this
def rnS (r u q : List Nat) : List Nat × List Nat := (ren r q, ren u q)
theorem spec_renS {r u q : List Nat} (hs : Sf r u) (hq : IsP q) (hl : q.length = r.length) : Ev (fun k => spec_l03Rename.f k (I r) (I u) (I q)) (I (rnS r u q).1, I (rnS r u q).2) := by
  unfold spec_l03Rename.f
  exact Ev.bind (spec_ren hs.pr hq hl hs.le) (Ev.bind (spec_ren hs.pu hq (by rw [hl, hs.eq]) (by rw [hs.eq]; exact hs.le)) (Ev.now _))
theorem impl_renS {r u q : List Nat} (hs : Sf r u) (hq : IsP q) (hl : q.length = r.length) : Ev (fun k => impl_RenameSurface.f k (I r) (I u) (I q)) (I (rnS r u q).1, I (rnS r u q).2, true) := by
  unfold impl_RenameSurface.f
  have h0 := surfB_I.mpr hs
  have hle := hs.le
  have b2 : permB (I q) = true := permB_I.mpr ⟨hq, by omega⟩
  refine Ev.bind (impl_surf _ _) ?_
  simp only [h0, if_true]
  refine Ev.bind (impl_permOk _) ?_
  have e : ((q.length : Int) != (r.length : Int)) = false := by rw [bne_eq_false_iff_eq]; omega
  simp only [b2, I_len', e, if_true]
  refine ev_succ ?_
  simp only [impl_RenameSurface.j0, Bool.false_eq_true, if_false]
  exact Ev.bind (impl_ren hs.pr hq hl hs.le) (Ev.bind (impl_ren hs.pu hq (by rw [hl, hs.eq]) (by rw [hs.eq]; exact hs.le)) (Ev.now _))
theorem spec_names {r u : List Nat} (hs : Sf r u) {s : Nat} (h : s < r.length) : Ev (fun k => spec_l03Names.f k (I r) (I u) (s : Int)) (I (nm r u s)) := by
  obtain ⟨h1, h2⟩ := isP_reach hs h
  unfold spec_l03Names.f
  exact Ev.bind (reach_ev hs.pr hs.pu hs.eq hs.le s h) (Ev.bind (spec_inv h1 (by rw [h2]; exact hs.le)) (Ev.now _))
def nmP (n : Nat) (out : List Nat) : List Int := (List.range n).map (fun x => if x ∈ out then ((out.idxOf x : Nat) : Int) else -1)
theorem nmP_len (n : Nat) (out : List Nat) : (nmP n out).length = n := by simp [nmP]
theorem rd_nmP {n : Nat} {out : List Nat} {x : Nat} (h : x < n) : rd (nmP n out) (x : Int) = if x ∈ out then ((out.idxOf x : Nat) : Int) else -1 := by
  rw [rd_get _ _ (by rw [nmP_len]; exact h)]
  simp [nmP]
theorem nmP_add {n : Nat} {out : List Nat} {x : Nat} (h : x < n) (hn : x ∉ out) : (nmP n out).set x (out.length : Int) = nmP n (out ++ [x]) := by
  refine ext_rd (by rw [List.length_set, nmP_len, nmP_len]) (fun i hi => ?_)
  rw [List.length_set, nmP_len] at hi
  rw [rd_set (by rw [nmP_len]; exact h), rd_nmP hi, rd_nmP hi]
  by_cases e : x = i
  · subst e
    have : x ∈ out ++ [x] := by simp
    rw [if_pos rfl, if_pos this, List.idxOf_append, if_neg hn]
    simp
  · rw [if_neg e]
    by_cases hm : i ∈ out
    · have : i ∈ out ++ [x] := by simp [hm]
      rw [if_pos hm, if_pos this, List.idxOf_append, if_pos hm]
    · have : i ∉ out ++ [x] := by simp [hm]; omega
      rw [if_neg hm, if_neg this]
theorem nmP_full {n : Nat} {out : List Nat} (hl : out.length = n) (h : ∀ x, x < n → x ∈ out) : nmP n out = I (inv out) := by
  refine ext_rd (by rw [nmP_len, I_len, inv_len, hl]) (fun i hi => ?_)
  rw [nmP_len] at hi
  rw [rd_nmP hi, if_pos (h i hi), rdI, g_inv (by omega)]
  rfl
theorem names_one {p q : List Nat} {out pr : List Nat} (a j : Nat) (hj : j < pr.length) (hpr : pr.length ≤ 2) (hl : out.length ≤ 1000) (hx : g pr j < p.length) (res : List Int)
    (H : Ev (fun k => impl_NamesFrom.l2 k (nmP p.length (st1 out (g pr j))) (I (st1 out (g pr j))) (a : Int) (I pr) (pr.length : Int) ((j + 1 : Nat) : Int) (I p) (I q)) res) :
    Ev (fun k => impl_NamesFrom.l2 k (nmP p.length out) (I out) (a : Int) (I pr) (pr.length : Int) (j : Int) (I p) (I q)) res := by
  refine ev_succ ?_
  have h1 : (j : Int) < (pr.length : Int) := by omega
  have h2 : (0 : Int) ≤ (j : Int) := by omega
  have h4 : (I out).length < 17592186044416 := by rw [I_len]; omega
  have h5 : (0 : Int) ≤ ((g pr j : Nat) : Int) := by omega
  have h6 : ((g pr j : Nat) : Int) < ((nmP p.length out).length : Int) := by rw [nmP_len]; omega
  have h7 : rd (nmP p.length out) ((g pr j : Nat) : Int) = if g pr j ∈ out then ((out.idxOf (g pr j) : Nat) : Int) else -1 := rd_nmP hx
  have h3 := w64s j (by omega)
  by_cases hin : g pr j ∈ out
  · have e : st1 out (g pr j) = out := by unfold st1; rw [if_pos hin]
    rw [e] at H
    rw [if_pos hin] at h7
    have h8 : ¬ (((out.idxOf (g pr j) : Nat) : Int) < 0) := by omega
    simp only [impl_NamesFrom.l2, h1, h2, h3, h5, h6, h7, h8, rdI, I_len', if_true, if_false]
    exact H
  · have e : st1 out (g pr j) = out ++ [g pr j] := by unfold st1; rw [if_neg hin]
    rw [e, ← nmP_add hx hin, ← I_snoc] at H
    rw [if_neg hin] at h7
    have h8 : (-1 : Int) < 0 := by omega
    simp only [impl_NamesFrom.l2, h1, h2, h3, h4, h5, h6, h7, h8, rdI, I_len', if_true, Int.toNat_natCast]
    exact H
theorem names_loop {p q : List Nat} (hp : IsP p) (hq : IsP q) (hl : q.length = p.length) (h24 : p.length ≤ 24) (f : Nat) : ∀ (a : Nat) (out : List Nat), RInv p.length out → a ≤ out.length → p.length < f + a →
    Ev (fun k => impl_NamesFrom.l1 k (nmP p.length out) (I out) (a : Int) (I p) (I q)) (nmP p.length (bfs p q f a out)) := by
  induction f with
  | zero =>
    intro a out hr ha hf
    have := hr.le
    omega
  | succ f ih =>
    intro a out hr ha hf
    have hle := hr.le
    refine ev_succ ?_
    by_cases h : a < out.length
    · have hx := hr.g h
      have hg1 := g_lt hp hx
      have hg2 : g q (g out a) < p.length := by have := g_lt hq (i := g out a) (by omega); omega
      have r1 := hr.st hg1
      have r2 := r1.st hg2
      have h1 : (a : Int) < (out.length : Int) := by omega
      have h2 : (0 : Int) ≤ (a : Int) := by omega
      have h3 : ((g out a : Nat) : Int) < (p.length : Int) := by omega
      have h4 : (0 : Int) ≤ ((g out a : Nat) : Int) := by omega
      have h5 : ((g out a : Nat) : Int) < (q.length : Int) := by omega
      have hb : bfs p q (f + 1) a out = bfs p q f (a + 1) (st1 (st1 out (g p (g out a))) (g q (g out a))) := by
        rw [bfs, if_pos h]
      rw [hb]
      have key := ih (a + 1) _ r2 (Nat.le_trans (by omega : a + 1 ≤ out.length) (Nat.le_trans (st1_len _ _) (st1_len _ _))) (by omega)
      have hq1 : a ≤ 9000000000000000000 := by omega
      have l1 := r1.le
      simp only [impl_NamesFrom.l1, h1, h2, h3, h4, h5, rdI, I_len', if_true, Option.bind_some, I_pair]
      refine names_one (q := q) a 0 (by simp) (by simp) (by omega) hg1 _ ?_
      refine names_one (q := q) a 1 (by simp) (by simp) (by simp only [g, List.getD_cons_zero] at l1 ⊢; omega) hg2 _ ?_
      refine ev_succ ?_
      have h7 : ¬ (((1 + 1 : Nat) : Int) < (([g p (g out a), g q (g out a)] : List Nat).length : Int)) := by simp
      have h6 := w64s a hq1
      simp only [impl_NamesFrom.l2, h7, h6, if_false]
      exact key
    · have h1 : ¬ ((a : Int) < (out.length : Int)) := by omega
      have hb : bfs p q (f + 1) a out = out := by rw [bfs, if_neg h]
      rw [hb]
      simp only [impl_NamesFrom.l1, h1, I_len', if_false]
      exact Ev.now _
theorem impl_names {r u : List Nat} (hs : Sf r u) {s : Nat} (h : s < r.length) : Ev (fun k => impl_NamesFrom.f k (I r) (I u) (s : Int)) (I (nm r u s)) := by
  have hle := hs.le
  have h0 := surfB_I.mpr hs
  obtain ⟨k1, k2⟩ := reach_full hs h
  obtain ⟨_, k3⟩ := isP_reach hs h
  have fin := names_loop hs.pr hs.pu hs.eq hs.le (r.length + 1) 0 [s] ⟨by simp, by simpa using h⟩ (by simp) (by omega)
  have e1 : bfs r u (r.length + 1) 0 [s] = reach r u s := rfl
  rw [e1, nmP_full k3 k2] at fin
  have H : ∀ d i : Nat, i + d = r.length → Ev (fun k => impl_NamesFrom.l0 k (s : Int) (List.replicate i (-1) ++ List.replicate d 0) (r.length : Int) (i : Int) (I r) (I u)) (I (nm r u s)) := by
    intro d
    induction d with
    | zero =>
      intro i hi
      obtain rfl : i = r.length := by omega
      refine ev_succ ?_
      have c1 : ¬ ((r.length : Int) < (r.length : Int)) := by omega
      have c2 : (0 : Int) ≤ (s : Int) := by omega
      have c3 : (s : Int) < (((List.replicate r.length (-1) ++ List.replicate 0 0 : List Int)).length : Int) := by simp; omega
      have c4 : (List.replicate r.length (-1) ++ List.replicate 0 0 : List Int).set ((s : Int)).toNat 0 = nmP r.length [s] := by
        refine ext_rd (by rw [List.length_set, nmP_len]; simp) (fun i hi => ?_)
        rw [List.length_set] at hi
        have hi' : i < r.length := by simpa using hi
        rw [Int.toNat_natCast, rd_set (by simp; exact h), rd_nmP hi']
        by_cases e : s = i
        · subst e
          simp
        · rw [if_neg e]
          have : i ∉ [s] := by simp; omega
          rw [if_neg this, rd_get _ _ hi]
          simp
      simp only [impl_NamesFrom.l0, c1, c2, c3, c4, if_true, if_false]
      exact fin
    | succ d ih =>
      intro i hi
      refine ev_succ ?_
      have c1 : (i : Int) < (r.length : Int) := by omega
      have c2 : (0 : Int) ≤ (i : Int) := by omega
      have c3 : (i : Int) < (((List.replicate i (-1) ++ List.replicate (d + 1) 0 : List Int)).length : Int) := by simp; omega
      have c4 : (List.replicate i (-1) ++ List.replicate (d + 1) 0 : List Int).set ((i : Int)).toNat (-1) = List.replicate (i + 1) (-1) ++ List.replicate d 0 := by
        have hm := set_mid5 (List.replicate i (-1 : Int)) 0 (-1) (List.replicate d 0)
        rw [List.length_replicate] at hm
        rw [Int.toNat_natCast, List.replicate_succ, hm, List.replicate_succ', List.append_assoc]
        rfl
      have c5 := w64s i (by omega)
      simp only [impl_NamesFrom.l0, c1, c2, c3, c4, c5, if_true]
      exact ih (i + 1) (by omega)
  unfold impl_NamesFrom.f
  refine Ev.bind (impl_surf _ _) ?_
  have n1 : ¬ ((s : Int) < 0) := by omega
  have n2 : decide ((s : Int) ≥ (r.length : Int)) = false := by rw [decide_eq_false_iff_not]; omega
  simp only [h0, n1, n2, I_len', if_true, if_false]
  refine ev_succ ?_
  have z1 : (0 : Int) ≤ (r.length : Int) := by omega
  have z2 : r.length ≤ 35184372088832 := by omega
  simp only [impl_NamesFrom.j0, Bool.false_eq_true, I_len', z1, z2, if_true, if_false, Int.toNat_natCast, Option.bind_some, List.length_replicate]
  have := H r.length 0 (Nat.zero_add _)
  simpa using this
end Go.Proofs.Ytcggfjpnfodbaaa.M
end
section
/- The canonical form: the program and the reference find the same one. No conditions. -/
namespace Go.Proofs.Ytcggfjpnfodbaaa.M
set_option linter.unusedVariables false
set_option linter.unusedSimpArgs false
open Go.RowKit Go.Proofs.YtcggfjpnfodbaaaW.PrintWords Go.Proofs.YtcggfjpnfodbaaaW.PrintLast Go.Proofs.YtcggfjpnfodbaaaW.PrintMore Go.Proofs.Ytcggfjpnfodbaaa.A
def lexC : List Nat → List Nat → Int
  | [], [] => 0
  | [], _ :: _ => -1
  | _ :: _, [] => 1
  | a :: l, b :: m => if a < b then -1 else if b < a then 1 else lexC l m
theorem cmp_ev (a b : Nat) : cmp_Compare_int.f (a : Int) (b : Int) = some (if a < b then -1 else if b < a then 1 else 0) := by
  unfold cmp_Compare_int.f cmp_isNaN_int.f
  simp only [bne_self_eq_false, Option.bind_some, Bool.false_eq_true, if_false]
  by_cases h1 : a < b
  · have : (a : Int) < (b : Int) := by omega
    simp only [h1, this, if_true]
  · have n1 : ¬ (a : Int) < (b : Int) := by omega
    by_cases h2 : b < a
    · have : (a : Int) > (b : Int) := by omega
      simp only [h1, n1, h2, this, if_true, if_false]
    · have n2 : ¬ (a : Int) > (b : Int) := by omega
      simp only [h1, n1, h2, n2, if_false]
theorem lexC_eq : ∀ (a b : List Nat), lexC a b = 0 ↔ a = b := by
  intro a
  induction a with
  | nil => intro b; cases b <;> simp [lexC]
  | cons x a ih =>
    intro b
    cases b with
    | nil => simp [lexC]
    | cons y b =>
      unfold lexC
      by_cases h1 : x < y
      · simp [h1]; omega
      · by_cases h2 : y < x
        · simp [h1, h2]; omega
        · have e : x = y := by omega
          subst e
          simp [h1, ih]
theorem compare_ev (a b : List Nat) (hl : a.length ≤ 1000000) : Ev (fun k => slices_Compare_int_int.f k (I a) (I b)) (lexC a b) := by
  unfold slices_Compare_int_int.f
  have H : ∀ d i : Nat, i + d = a.length → i ≤ b.length → Ev (fun k => slices_Compare_int_int.l0 k (I a) (I b) (I a) (a.length : Int) (i : Int)) (lexC (a.drop i) (b.drop i)) := by
    intro d
    induction d with
    | zero =>
      intro i hi hb
      refine ev_succ ?_
      have c1 : ¬ ((i : Int) < (a.length : Int)) := by omega
      rw [List.drop_of_length_le (l := a) (by omega)]
      simp only [slices_Compare_int_int.l0, c1, I_len', if_false]
      by_cases h : (a.length : Int) < (b.length : Int)
      · have : lexC [] (b.drop i) = -1 := by
          rw [List.drop_eq_getElem_cons (by omega)]
          rfl
        simp only [h, if_true, this]
        exact Ev.now _
      · have : lexC [] (b.drop i) = 0 := by
          rw [List.drop_of_length_le (by omega)]
          rfl
        simp only [h, if_false, this]
        exact Ev.now _
    | succ d ih =>
      intro i hi hb
      have hia : i < a.length := by omega
      rw [List.drop_eq_getElem_cons hia, ← g_get hia]
      have c1 : (i : Int) < (a.length : Int) := by omega
      have c2 : (0 : Int) ≤ (i : Int) := by omega
      have c3 := w64s i (by omega)
      refine ev_succ ?_
      by_cases h : i < b.length
      · rw [List.drop_eq_getElem_cons h, ← g_get h]
        have n1 : ¬ ((i : Int) ≥ (b.length : Int)) := by omega
        have n2 : (i : Int) < (b.length : Int) := by omega
        simp only [slices_Compare_int_int.l0, c1, c2, c3, n1, n2, I_len', rdI, cmp_ev, Option.bind_some, if_true, if_false]
        unfold lexC
        by_cases h1 : g a i < g b i
        · have z : ¬ ((-1 : Int) = 0) := by omega
          simp only [h1, z, if_true, if_false]
          exact Ev.now _
        · by_cases h2 : g b i < g a i
          · have z : ¬ ((1 : Int) = 0) := by omega
            simp only [h1, h2, z, if_true, if_false]
            exact Ev.now _
          · simp only [h1, h2, if_true, if_false]
            exact ih (i + 1) (by omega) (by omega)
      · have n1 : (i : Int) ≥ (b.length : Int) := by omega
        rw [List.drop_of_length_le (l := b) (by omega)]
        simp only [slices_Compare_int_int.l0, c1, c2, n1, I_len', if_true]
        exact Ev.now _
  have key := H a.length 0 (Nat.zero_add _) (Nat.zero_le _)
  rw [List.drop_zero, List.drop_zero] at key
  simp only [I_len']
  exact key
theorem less_ev (a b : List Nat) (hl : a.length ≤ 1000000) (he : b.length = a.length) : Ev (fun k => spec_l03Less.f k (I a) (I b)) (decide (lexC a b < 0)) := by
  unfold spec_l03Less.f
  have H : ∀ d i : Nat, i + d = a.length → Ev (fun k => spec_l03Less.l0 k (I b) (I a) (a.length : Int) (i : Int)) (decide (lexC (a.drop i) (b.drop i) < 0)) := by
    intro d
    induction d with
    | zero =>
      intro i hi
      refine ev_succ ?_
      have c1 : ¬ ((i : Int) < (a.length : Int)) := by omega
      rw [List.drop_of_length_le (l := a) (by omega), List.drop_of_length_le (l := b) (by omega)]
      simp only [spec_l03Less.l0, c1, if_false]
      exact Ev.now _
    | succ d ih =>
      intro i hi
      have hia : i < a.length := by omega
      have hib : i < b.length := by omega
      rw [List.drop_eq_getElem_cons hia, ← g_get hia, List.drop_eq_getElem_cons hib, ← g_get hib]
      have c1 : (i : Int) < (a.length : Int) := by omega
      have c2 : (0 : Int) ≤ (i : Int) := by omega
      have n2 : (i : Int) < (b.length : Int) := by omega
      have c3 := w64s i (by omega)
      refine ev_succ ?_
      simp only [spec_l03Less.l0, c1, c2, c3, n2, I_len', rdI, if_true]
      unfold lexC
      by_cases h1 : g a i < g b i
      · have z1 : ¬ (((g a i : Nat) : Int) = ((g b i : Nat) : Int)) := by omega
        have z2 : decide (((g a i : Nat) : Int) < ((g b i : Nat) : Int)) = true := by rw [decide_eq_true_iff]; omega
        have z3 : decide ((-1 : Int) < 0) = true := by decide
        simp only [h1, z1, z2, z3, if_true, if_false]
        exact Ev.now _
      · by_cases h2 : g b i < g a i
        · have z1 : ¬ (((g a i : Nat) : Int) = ((g b i : Nat) : Int)) := by omega
          have z2 : decide (((g a i : Nat) : Int) < ((g b i : Nat) : Int)) = false := by rw [decide_eq_false_iff_not]; omega
          have z3 : decide ((1 : Int) < 0) = false := by decide
          simp only [h1, h2, z1, z2, z3, if_true, if_false]
          exact Ev.now _
        · have z1 : ((g a i : Nat) : Int) = ((g b i : Nat) : Int) := by omega
          simp only [h1, h2, z1, if_true, if_false]
          exact ih (i + 1) (by omega)
  have key := H a.length 0 (Nat.zero_add _)
  rw [List.drop_zero, List.drop_zero] at key
  simp only [I_len']
  exact key
def cmpS (a b : List Nat × List Nat) : Int := if lexC a.1 b.1 = 0 then lexC a.2 b.2 else lexC a.1 b.1
theorem impl_cmpS (a b : List Nat × List Nat) (h1 : a.1.length ≤ 1000000) (h2 : a.2.length ≤ 1000000) : Ev (fun k => impl_compareSurfaces.f k (I a.1) (I a.2) (I b.1) (I b.2)) (cmpS a b) := by
  unfold impl_compareSurfaces.f cmpS
  refine Ev.bind (compare_ev a.1 b.1 h1) ?_
  by_cases h : lexC a.1 b.1 = 0
  · simp only [h, if_true]
    exact Ev.bind (compare_ev a.2 b.2 h2) (Ev.now _)
  · simp only [h, if_false]
    exact Ev.now _
theorem sameList_nat (a b : List Nat) (h : a.length ≤ 1000000000) : Ev (fun k => spec_SameList.f k (I a) (I b)) (decide (a = b)) := by
  unfold spec_SameList.f
  by_cases hl : (a.length : Int) = (b.length : Int)
  · have hl' : a.length = b.length := by omega
    simp only [I_len', hl, ne_eq, not_true_eq_false, if_false, if_true]
    have H : ∀ d i : Nat, i + d = a.length → Ev (fun k => spec_SameList.l0 k (I b) (I a) (b.length : Int) (i : Int)) (decide (a.drop i = b.drop i)) := by
      intro d
      induction d with
      | zero =>
        intro i hi
        refine ev_succ ?_
        have c1 : ¬ ((i : Int) < (b.length : Int)) := by omega
        have e : decide (a.drop i = b.drop i) = true := by rw [List.drop_of_length_le (by omega), List.drop_of_length_le (by omega)]; simp
        simp only [spec_SameList.l0, c1, if_false, e]
        exact Ev.now _
      | succ d ih =>
        intro i hi
        have hia : i < a.length := by omega
        have hib : i < b.length := by omega
        rw [List.drop_eq_getElem_cons hia, ← g_get hia, List.drop_eq_getElem_cons hib, ← g_get hib]
        have c1 : (i : Int) < (b.length : Int) := by omega
        have c2 : (0 : Int) ≤ (i : Int) := by omega
        have c4 : (i : Int) < (a.length : Int) := by omega
        have c3 := w64s i (by omega)
        refine ev_succ ?_
        by_cases he : g a i = g b i
        · have z : ((g a i : Nat) : Int) = ((g b i : Nat) : Int) := by omega
          have e : decide (g a i :: a.drop (i + 1) = g b i :: b.drop (i + 1)) = decide (a.drop (i + 1) = b.drop (i + 1)) := by simp [he]
          rw [e]
          simp only [spec_SameList.l0, c1, c2, c3, c4, I_len', rdI, z, if_true]
          exact ih (i + 1) (by omega)
        · have z : ¬ (((g a i : Nat) : Int) = ((g b i : Nat) : Int)) := by omega
          have e : decide (g a i :: a.drop (i + 1) = g b i :: b.drop (i + 1)) = false := by simp [he]
          rw [e]
          simp only [spec_SameList.l0, c1, c2, c4, I_len', rdI, z, if_true, if_false]
          exact Ev.now _
    have key := H a.length 0 (Nat.zero_add _)
    rw [List.drop_zero, List.drop_zero] at key
    exact key
  · have e : decide (a = b) = false := by
      rw [decide_eq_false_iff_not]
      intro e
      rw [e] at hl
      exact hl rfl
    simp only [I_len', hl, ne_eq, not_false_eq_true, if_true, if_false, e]
    exact Ev.now _
theorem spec_before (a b : List Nat × List Nat) (h1 : a.1.length ≤ 1000000) (h2 : a.2.length ≤ 1000000) (e1 : b.1.length = a.1.length) (e2 : b.2.length = a.2.length) : Ev (fun k => spec_l03Before.f k (I a.1) (I a.2) (I b.1) (I b.2)) (decide (cmpS a b < 0)) := by
  unfold spec_l03Before.f cmpS
  refine Ev.bind (sameList_nat a.1 b.1 (by omega)) ?_
  by_cases h : a.1 = b.1
  · have z := (lexC_eq a.1 b.1).mpr h
    rw [z]
    simp only [h, decide_true, if_true]
    exact Ev.bind (less_ev a.2 b.2 h2 e2) (Ev.now _)
  · have z : ¬ lexC a.1 b.1 = 0 := fun k => h ((lexC_eq _ _).mp k)
    simp only [h, z, decide_false, Bool.false_eq_true, if_false]
    exact Ev.bind (less_ev a.1 b.1 h1 e1) (Ev.now _)
def rS (r u : List Nat) (s : Nat) : List Nat × List Nat := rnS r u (nm r u s)
theorem rS_len {r u : List Nat} (s : Nat) : (rS r u s).1.length = r.length ∧ (rS r u s).2.length = u.length := ⟨ren_len _ _, ren_len _ _⟩
def canK (r u : List Nat) : Nat → List Nat × List Nat
  | 0 => rS r u 0
  | k + 1 => if cmpS (rS r u (k + 1)) (canK r u k) < 0 then rS r u (k + 1) else canK r u k
theorem canK_len {r u : List Nat} (k : Nat) : (canK r u k).1.length = r.length ∧ (canK r u k).2.length = u.length := by
  induction k with
  | zero => exact rS_len 0
  | succ k ih =>
    unfold canK
    split
    · exact rS_len _
    · exact ih
def canS (r u : List Nat) : List Nat × List Nat := canK r u (r.length - 1)
theorem spec_canon {r u : List Nat} (hs : Sf r u) : Ev (fun k => spec_l03Canon.f k (I r) (I u)) (I (canS r u).1, I (canS r u).2) := by
  have hle := hs.le
  have heq := hs.eq
  have hpos := hs.pos
  unfold spec_l03Canon.f
  have e0 := spec_names hs hpos
  have q0 := isP_nm hs hpos
  refine Ev.bind e0 (Ev.bind (spec_renS hs q0.1 q0.2) ?_)
  have H : ∀ d i : Nat, i + 1 + d = r.length → Ev (fun k => spec_l03Canon.l0 k ((i + 1 : Nat) : Int) (I r) (I u) (I (canK r u i).1) (I (canK r u i).2)) (I (canS r u).1, I (canS r u).2) := by
    intro d
    induction d with
    | zero =>
      intro i hi
      refine ev_succ ?_
      have c1 : ¬ (((i + 1 : Nat) : Int) < (r.length : Int)) := by omega
      have e : canS r u = canK r u i := by
        unfold canS
        congr 1
        omega
      rw [e]
      simp only [spec_l03Canon.l0, c1, I_len', if_false]
      exact Ev.now _
    | succ d ih =>
      intro i hi
      have hi1 : i + 1 < r.length := by omega
      have q1 := isP_nm hs hi1
      have c1 : ((i + 1 : Nat) : Int) < (r.length : Int) := by omega
      have c3 := w64s (i + 1) (by omega)
      have lk := canK_len (r := r) (u := u) i
      have lr := rS_len (r := r) (u := u) (i + 1)
      refine ev_succ ?_
      simp only [spec_l03Canon.l0, c1, c3, I_len', if_true]
      refine Ev.bind (spec_names hs hi1) (Ev.bind (spec_renS hs q1.1 q1.2) ?_)
      refine Ev.bind (spec_before (rS r u (i + 1)) (canK r u i) (by rw [lr.1]; omega) (by rw [lr.2]; omega) (by rw [lr.1, lk.1]) (by rw [lr.2, lk.2])) ?_
      have key := ih (i + 1) (by omega)
      unfold canK at key
      by_cases h : cmpS (rS r u (i + 1)) (canK r u i) < 0
      · rw [if_pos h] at key
        simp only [h, decide_true, if_true]
        exact key
      · rw [if_neg h] at key
        simp only [h, decide_false, Bool.false_eq_true, if_false]
        exact key
  have key := H (r.length - 1) 0 (by omega)
  exact key
def namedL (r u : List Nat) (n : Nat) : List S25 := (List.range n).map (fun s => (⟨I (rS r u s).1, I (rS r u s).2⟩ : S25))
theorem namedL_len (r u : List Nat) (n : Nat) : (namedL r u n).length = n := by simp [namedL]
theorem rd_named {r u : List Nat} {n i : Nat} (h : i < n) : rd_T25 (namedL r u n) (i : Int) = ⟨I (rS r u i).1, I (rS r u i).2⟩ := by
  unfold rd_T25 namedL
  simp [List.getD_eq_getElem?_getD, h]
theorem count_sq {r u : List Nat} (hs : Sf r u) : Ev (fun k => impl_CountSquares.f k (I r) (I u)) (r.length : Int) := by
  unfold impl_CountSquares.f
  refine Ev.bind (impl_surf _ _) ?_
  have h0 := surfB_I.mpr hs
  simp only [h0, I_len', if_true]
  exact Ev.now _
theorem impl_named {r u : List Nat} (hs : Sf r u) : Ev (fun k => impl_namedFrom.f k (I r) (I u)) (namedL r u r.length) := by
  have hle := hs.le
  unfold impl_namedFrom.f
  have H : ∀ d i : Nat, i + d = r.length → Ev (fun k => impl_namedFrom.l0 k (namedL r u i) (i : Int) (I r) (I u)) (namedL r u r.length) := by
    intro d
    induction d with
    | zero =>
      intro i hi
      obtain rfl : i = r.length := by omega
      refine ev_succ ?_
      simp only [impl_namedFrom.l0]
      refine Ev.bind (count_sq hs) ?_
      have c1 : ¬ ((r.length : Int) < (r.length : Int)) := by omega
      simp only [c1, if_false]
      exact Ev.now _
    | succ d ih =>
      intro i hi
      have hil : i < r.length := by omega
      have q1 := isP_nm hs hil
      refine ev_succ ?_
      simp only [impl_namedFrom.l0]
      refine Ev.bind (count_sq hs) ?_
      have c1 : (i : Int) < (r.length : Int) := by omega
      have c2 : (namedL r u i).length < 2932031007402 := by rw [namedL_len]; omega
      have c3 := w64s i (by omega)
      simp only [c1, if_true]
      refine Ev.bind (impl_names hs hil) (Ev.bind (impl_renS hs q1.1 q1.2) ?_)
      have e : namedL r u i ++ [(⟨I (rnS r u (nm r u i)).1, I (rnS r u (nm r u i)).2⟩ : S25)] = namedL r u (i + 1) := by
        unfold namedL
        rw [List.range_succ, List.map_append]
        rfl
      simp only [c2, c3, e, if_true]
      exact ih (i + 1) (by omega)
  exact H r.length 0 (Nat.zero_add _)
theorem impl_canon {r u : List Nat} (hs : Sf r u) : Ev (fun k => impl_CanonOf.f k (I r) (I u)) (I (canS r u).1, I (canS r u).2, true) := by
  have hle := hs.le
  have heq := hs.eq
  have hpos := hs.pos
  unfold impl_CanonOf.f
  refine Ev.bind (impl_named hs) ?_
  have c0 : ¬ ((r.length : Int) = 0) := by omega
  simp only [namedL_len, c0, if_false]
  refine Ev.bind (a := (I (canS r u).1, I (canS r u).2)) ?_ (Ev.now _)
  unfold impl_Surface_76.f
  have c1 : ¬ ((r.length : Int) < 1) := by omega
  have c2 : (0 : Int) < (r.length : Int) := by omega
  have e0 : rd_T25 (namedL r u r.length) 0 = ⟨I (canK r u 0).1, I (canK r u 0).2⟩ := rd_named hpos
  simp only [namedL_len, c1, c2, e0, if_true, if_false]
  have H : ∀ d i : Nat, i + 1 + d = r.length → Ev (fun k => impl_Surface_76.l0 k (namedL r u r.length) ((i + 1 : Nat) : Int) (I (canK r u i).1) (I (canK r u i).2)) (I (canS r u).1, I (canS r u).2) := by
    intro d
    induction d with
    | zero =>
      intro i hi
      refine ev_succ ?_
      have c1 : ¬ (((i + 1 : Nat) : Int) < (r.length : Int)) := by omega
      have e : canS r u = canK r u i := by
        unfold canS
        congr 1
        omega
      rw [e]
      simp only [impl_Surface_76.l0, c1, namedL_len, if_false]
      exact Ev.now _
    | succ d ih =>
      intro i hi
      have hi1 : i + 1 < r.length := by omega
      have c1 : ((i + 1 : Nat) : Int) < (r.length : Int) := by omega
      have c2 : (0 : Int) ≤ ((i + 1 : Nat) : Int) := by omega
      have c4 : rd_T25 (namedL r u r.length) ((i + 1 : Nat) : Int) = ⟨I (rS r u (i + 1)).1, I (rS r u (i + 1)).2⟩ := rd_named hi1
      have c3 := w64s (i + 1) (by omega)
      have lr := rS_len (r := r) (u := u) (i + 1)
      refine ev_succ ?_
      simp only [impl_Surface_76.l0, c1, c2, c3, c4, namedL_len, if_true]
      refine Ev.bind (impl_cmpS (rS r u (i + 1)) (canK r u i) (by rw [lr.1]; omega) (by rw [lr.2]; omega)) ?_
      have key := ih (i + 1) (by omega)
      unfold canK at key
      by_cases h : cmpS (rS r u (i + 1)) (canK r u i) < 0
      · rw [if_pos h] at key
        simp only [h, if_true]
        exact key
      · rw [if_neg h] at key
        simp only [h, if_false]
        exact key
  exact H (r.length - 1) 0 (by omega)
theorem impl_canon_no {r u : List Int} (h : ¬ surfB r u = true) : Ev (fun k => impl_CanonOf.f k r u) ([], [], false) := by
  have h' := Bool.eq_false_iff.mpr h
  unfold impl_CanonOf.f
  refine Ev.bind (a := ([] : List S25)) ?_ ?_
  · unfold impl_namedFrom.f
    refine ev_succ ?_
    simp only [impl_namedFrom.l0]
    refine Ev.bind (a := (0 : Int)) ?_ ?_
    · unfold impl_CountSquares.f
      refine Ev.bind (impl_surf _ _) ?_
      simp only [h', Bool.false_eq_true, if_false]
      exact Ev.now _
    · have c1 : ¬ ((0 : Int) < 0) := by omega
      simp only [c1, if_false]
      exact Ev.now _
  · simp only [List.length_nil]
    exact Ev.now _
theorem equal_ev (a b : List Nat) (h : a.length ≤ 1000000000) : Ev (fun k => impl_SameList.f k (I a) (I b)) (decide (a = b)) := by
  unfold impl_SameList.f slices_Equal_int_int.f
  refine Ev.bind (a := decide (a = b)) ?_ (Ev.now _)
  by_cases hl : (a.length : Int) = (b.length : Int)
  · have hl' : a.length = b.length := by omega
    simp only [I_len', hl, if_true]
    have H : ∀ d i : Nat, i + d = a.length → Ev (fun k => slices_Equal_int_int.l0 k (I a) (I b) (b.length : Int) (i : Int)) (decide (a.drop i = b.drop i)) := by
      intro d
      induction d with
      | zero =>
        intro i hi
        refine ev_succ ?_
        have c1 : ¬ ((i : Int) < (b.length : Int)) := by omega
        have e : decide (a.drop i = b.drop i) = true := by rw [List.drop_of_length_le (by omega), List.drop_of_length_le (by omega)]; simp
        simp only [slices_Equal_int_int.l0, c1, if_false, e]
        exact Ev.now _
      | succ d ih =>
        intro i hi
        have hia : i < a.length := by omega
        have hib : i < b.length := by omega
        rw [List.drop_eq_getElem_cons hia, ← g_get hia, List.drop_eq_getElem_cons hib, ← g_get hib]
        have c1 : (i : Int) < (b.length : Int) := by omega
        have c2 : (0 : Int) ≤ (i : Int) := by omega
        have c4 : (i : Int) < (a.length : Int) := by omega
        have c3 := w64s i (by omega)
        refine ev_succ ?_
        by_cases he : g a i = g b i
        · have z : ((g a i : Nat) : Int) = ((g b i : Nat) : Int) := by omega
          have e : decide (g a i :: a.drop (i + 1) = g b i :: b.drop (i + 1)) = decide (a.drop (i + 1) = b.drop (i + 1)) := by simp [he]
          rw [e]
          simp only [slices_Equal_int_int.l0, c1, c2, c3, c4, I_len', rdI, z, if_true]
          exact ih (i + 1) (by omega)
        · have z : ¬ (((g a i : Nat) : Int) = ((g b i : Nat) : Int)) := by omega
          have e : decide (g a i :: a.drop (i + 1) = g b i :: b.drop (i + 1)) = false := by simp [he]
          rw [e]
          simp only [slices_Equal_int_int.l0, c1, c2, c4, I_len', rdI, z, if_true, if_false]
          exact Ev.now _
    have key := H a.length 0 (Nat.zero_add _)
    rw [List.drop_zero, List.drop_zero] at key
    exact key
  · have e : decide (a = b) = false := by
      rw [decide_eq_false_iff_not]
      intro e
      rw [e] at hl
      exact hl rfl
    simp only [I_len', hl, if_false, e]
    exact Ev.now _
end Go.Proofs.Ytcggfjpnfodbaaa.M
end
section
/- The canonical form tells which surfaces are alike. No conditions. -/
namespace Go.Proofs.Ytcggfjpnfodbaaa.M
set_option linter.unusedVariables false
set_option linter.unusedSimpArgs false
theorem is_rS {s : List Nat × List Nat} (hs : Sf s.1 s.2) {i : Nat} (hi : i < s.1.length) : Is s (rS s.1 s.2 i) (g (nm s.1 s.2 i)) := by
  obtain ⟨p, l⟩ := isP_nm hs hi
  refine ⟨(rS_len i).1, fun x hx => ?_, fun x y hx hy e => g_inj p (by rw [l]; exact hx) (by rw [l]; exact hy) e, fun x hx => ?_, fun x hx => ?_⟩
  · have := g_lt p (i := x) (by rw [l]; exact hx)
    rw [l] at this
    exact this
  · have h1 := g_lt p (i := x) (by rw [l]; exact hx)
    rw [l] at h1
    show _ = g (ren s.1 (nm s.1 s.2 i)) _
    rw [g_ren h1, ix_g p (by rw [l]; exact hx)]
  · have h1 := g_lt p (i := x) (by rw [l]; exact hx)
    rw [l] at h1
    show _ = g (ren s.2 (nm s.1 s.2 i)) _
    rw [g_ren (by rw [hs.eq]; exact h1), ix_g p (by rw [l]; exact hx)]
theorem sf_rS {s : List Nat × List Nat} (hs : Sf s.1 s.2) {i : Nat} (hi : i < s.1.length) : Sf (rS s.1 s.2 i).1 (rS s.1 s.2 i).2 := by
  obtain ⟨p, l⟩ := isP_nm hs hi
  have h := rS_len (r := s.1) (u := s.2) i
  exact hs.of_is (is_rS hs hi) (isP_ren hs.pr p l.symm) (isP_ren hs.pu p (by rw [l, hs.eq])) (by rw [h.1, h.2, hs.eq])
theorem canK_at (r u : List Nat) : ∀ k, ∃ i, i ≤ k ∧ canK r u k = rS r u i := by
  intro k
  induction k with
  | zero => exact ⟨0, Nat.le_refl _, rfl⟩
  | succ k ih =>
    obtain ⟨i, hi, e⟩ := ih
    unfold canK
    split
    · exact ⟨k + 1, Nat.le_refl _, rfl⟩
    · exact ⟨i, by omega, e⟩
theorem canS_at {r u : List Nat} (hs : Sf r u) : ∃ i, i < r.length ∧ canS r u = rS r u i := by
  obtain ⟨i, hi, e⟩ := canK_at r u (r.length - 1)
  have := hs.pos
  exact ⟨i, by omega, e⟩
theorem sf_canS {s : List Nat × List Nat} (hs : Sf s.1 s.2) : Sf (canS s.1 s.2).1 (canS s.1 s.2).2 := by
  obtain ⟨i, hi, e⟩ := canS_at hs
  rw [e]
  exact sf_rS hs hi
end Go.Proofs.Ytcggfjpnfodbaaa.M
end
section
/- One round about a corner; first places in lists. No conditions. -/
namespace Go.Proofs.Ytcggfjpnfodbaaa.M
set_option linter.unusedVariables false
set_option linter.unusedSimpArgs false
open Go.RowKit Go.Proofs.YtcggfjpnfodbaaaW.PrintWords Go.Proofs.YtcggfjpnfodbaaaW.PrintLast Go.Proofs.YtcggfjpnfodbaaaW.PrintMore Go.Proofs.Ytcggfjpnfodbaaa.A
theorem impl_then {p q : List Nat} (hp : IsP p) (hq : IsP q) (hl : p.length = q.length) (h24 : p.length ≤ 24) : Ev (fun k => impl_ThenPerm.f k (I p) (I q)) (I (thn p q)) := by
  unfold impl_ThenPerm.f
  refine Ev.bind (impl_permOk (I p)) ?_
  have e1 : permB (I p) = true := permB_I.mpr ⟨hp, h24⟩
  have e2 : permB (I q) = true := permB_I.mpr ⟨hq, by omega⟩
  simp only [e1, if_true]
  refine Ev.bind (impl_permOk (I q)) ?_
  have e3 : ((p.length : Int) != (q.length : Int)) = false := by simp [hl]
  simp only [e2, if_true, I_len', e3]
  refine ev_succ ?_
  have h1 : (0 : Int) ≤ (p.length : Int) := by omega
  have h2 : p.length ≤ 35184372088832 := by omega
  simp only [impl_ThenPerm.j0, Bool.false_eq_true, if_false, I_len', h1, h2, if_true, Int.toNat_natCast]
  have H : ∀ (d i : Nat) (c : List Nat), i + d = p.length → c.length = p.length → (∀ j, j < i → g c j = g q (g p j)) → Ev (fun k => impl_ThenPerm.l0 k (I q) (I c) (I p) (p.length : Int) (i : Int)) (I (thn p q)) := by
    intro d
    induction d with
    | zero =>
      intro i c h hc hx
      refine ev_succ ?_
      have h1 : ¬ ((i : Int) < (p.length : Int)) := by omega
      have e : thn p q = c := by
        refine (eq_tab hc (fun j hj => hx j (by omega))).symm
      simp only [impl_ThenPerm.l0, h1, if_false]
      rw [e]
      exact Ev.now _
    | succ d ih =>
      intro i c h hc hx
      refine ev_succ ?_
      have hi : i < p.length := by omega
      have gp := g_lt hp hi
      have c1 : (i : Int) < (p.length : Int) := by omega
      have c2 : (0 : Int) ≤ (i : Int) := by omega
      have c3 : (0 : Int) ≤ ((g p i : Nat) : Int) := by omega
      have c4 : ((g p i : Nat) : Int) < (q.length : Int) := by omega
      have c5 : (i : Int) < (c.length : Int) := by omega
      have h3 := w64s i (by omega)
      simp only [impl_ThenPerm.l0, c1, c2, c3, c4, c5, h3, rdI, I_len', I_set, if_true, Int.toNat_natCast]
      refine ih (i + 1) _ (by omega) (by rw [List.length_set]; exact hc) (fun j hj => ?_)
      rw [g_set (by omega)]
      by_cases e : i = j
      · subst e
        simp
      · rw [if_neg e]
        exact hx j (by omega)
  have := H p.length 0 (List.replicate p.length 0) (by omega) (by simp) (fun j hj => by omega)
  rw [I_rep] at this
  exact this
end Go.Proofs.Ytcggfjpnfodbaaa.M
end
section
/- Slopes and paths: the program and the reference answer alike. No conditions. -/
namespace Go.Proofs.Ytcggfjpnfodbaaa.M
set_option linter.unusedVariables false
set_option linter.unusedSimpArgs false
open Go.RowKit Go.Proofs.YtcggfjpnfodbaaaW.PrintWords Go.Proofs.YtcggfjpnfodbaaaW.PrintLast Go.Proofs.YtcggfjpnfodbaaaW.PrintMore Go.Proofs.Ytcggfjpnfodbaaa.A
theorem tab_snoc (i : Nat) (f : Nat → Nat) : tab i f ++ [f i] = tab (i + 1) f := by unfold tab; rw [List.range_succ]; simp
theorem spec_then {p q : List Nat} (hp : ∀ i, i < p.length → g p i < q.length) (h : p.length ≤ 1000) : Ev (fun k => spec_l02Then.f k (I p) (I q)) (I (thn p q)) := by
  unfold spec_l02Then.f
  have H : ∀ d i : Nat, i + d = p.length → Ev (fun k => spec_l02Then.l0 k (I q) (I (tab i (fun i => g q (g p i)))) (I p) (p.length : Int) (i : Int)) (I (thn p q)) := by
    intro d
    induction d with
    | zero =>
      intro i h
      obtain rfl : i = p.length := by omega
      refine ev_succ ?_
      have h1 : ¬ ((p.length : Int) < (p.length : Int)) := by omega
      simp only [spec_l02Then.l0, h1, if_false]
      exact Ev.now _
    | succ d ih =>
      intro i h
      have hi : i < p.length := by omega
      have hg := hp i hi
      refine ev_succ ?_
      have h1 : (i : Int) < (p.length : Int) := by omega
      have h2 := w64s i (by omega)
      have h3 : (I (tab i (fun i => g q (g p i)))).length < 17592186044416 := by rw [I_len, tab_len]; omega
      have h4 : (0 : Int) ≤ (i : Int) := by omega
      have h5 : (0 : Int) ≤ ((g p i : Nat) : Int) := by omega
      have h6 : ((g p i : Nat) : Int) < (q.length : Int) := by omega
      have e := tab_snoc i (fun i => g q (g p i))
      simp only [spec_l02Then.l0, h1, h2, h3, h4, h5, h6, rdI, I_len', if_true, I_snoc, e]
      exact ih (i + 1) (by omega)
  have := H p.length 0 (by omega)
  simp only [I_len']
  exact this
def wk (r u : List Nat) (w : ByteArray) : Nat → Nat → Nat
  | 0, x => x
  | j + 1, x => if bt w (j : Int) = 114 then g r (wk r u w j x) else g u (wk r u w j x)
end Go.Proofs.Ytcggfjpnfodbaaa.M
end
section
/- Words of letters: the program and the reference act alike. No conditions. -/
namespace Go.Proofs.Ytcggfjpnfodbaaa.M
set_option linter.unusedVariables false
set_option linter.unusedSimpArgs false
open Go.RowKit Go.Proofs.YtcggfjpnfodbaaaW.PrintWords Go.Proofs.YtcggfjpnfodbaaaW.PrintLast Go.Proofs.YtcggfjpnfodbaaaW.PrintMore Go.Proofs.Ytcggfjpnfodbaaa.A
def lt (c : Int) (s : List Nat × List Nat) : List Nat × List Nat := if c = 84 then (s.1, thn (inv s.1) s.2) else if c = 116 then (s.1, thn s.1 s.2) else if c = 83 then (inv s.2, s.1) else (s.2, inv s.1)
theorem sf_lt {s : List Nat × List Nat} (hs : Sf s.1 s.2) (c : Int) : Sf (lt c s).1 (lt c s).2 ∧ (lt c s).1.length = s.1.length := by
  unfold lt
  split
  · exact ⟨sf_T hs, rfl⟩
  · split
    · exact ⟨sf_t hs, rfl⟩
    · split
      · exact ⟨sf_S hs, by show (inv s.2).length = _; rw [inv_len, hs.eq]⟩
      · exact ⟨sf_s hs, hs.eq⟩
theorem thn_small {r u : List Nat} (hs : Sf r u) : (∀ i, i < (inv r).length → g (inv r) i < u.length) ∧ (∀ i, i < r.length → g r i < u.length) := by
  constructor
  · intro i hi
    have := g_lt (isP_inv hs.pr) hi
    rw [inv_len] at this
    rw [hs.eq]
    exact this
  · intro i hi
    rw [hs.eq]
    exact g_lt hs.pr hi
theorem spec_letter {s : List Nat × List Nat} (hs : Sf s.1 s.2) (c : Int) : Ev (fun k => spec_l05Letter.f k (I s.1) (I s.2) c) (I (lt c s).1, I (lt c s).2) := by
  have hle := hs.le
  have heq := hs.eq
  have c1 : ([] : List Int).length + (I s.1).length < 17592186044416 := by rw [I_len]; simp; omega
  have c2 : ([] : List Int).length + (I s.2).length < 17592186044416 := by rw [I_len]; simp; omega
  obtain ⟨t1, t2⟩ := thn_small hs
  unfold spec_l05Letter.f lt
  by_cases h1 : c = 84
  · simp only [h1, if_true]
    refine Ev.bind (a := (I s.1, I (thn (inv s.1) s.2))) ?_ (Ev.now _)
    unfold spec_l05Shear.f
    simp only [Option.bind_some, c1, if_true, List.nil_append]
    exact Ev.bind (spec_inv hs.pr hs.le) (Ev.bind (spec_then t1 (by rw [inv_len]; omega)) (Ev.now _))
  · by_cases h2 : c = 116
    · have n1 : ¬ ((116 : Int) = 84) := by omega
      simp only [h2, n1, if_true, if_false]
      refine Ev.bind (a := (I s.1, I (thn s.1 s.2))) ?_ (Ev.now _)
      unfold spec_l05Unshear.f
      simp only [Option.bind_some, c1, if_true, List.nil_append]
      exact Ev.bind (spec_then t2 (by omega)) (Ev.now _)
    · by_cases h3 : c = 83
      · have n1 : ¬ ((83 : Int) = 84) := by omega
        have n2 : ¬ ((83 : Int) = 116) := by omega
        simp only [h3, n1, n2, if_true, if_false]
        refine Ev.bind (a := (I (inv s.2), I s.1)) ?_ (Ev.now _)
        unfold spec_l05Turn.f
        refine Ev.bind (spec_inv hs.pu (by omega)) ?_
        simp only [Option.bind_some, c1, if_true, List.nil_append]
        exact Ev.now _
      · simp only [h1, h2, h3, if_false]
        refine Ev.bind (a := (I s.2, I (inv s.1))) ?_ (Ev.now _)
        unfold spec_l05Unturn.f
        simp only [Option.bind_some, c2, if_true, List.nil_append]
        exact Ev.bind (spec_inv hs.pr hs.le) (Ev.now _)
def letB (c : Int) : Bool := decide (c = 84 ∨ c = 116 ∨ c = 83 ∨ c = 115)
theorem copy_ev (l : List Int) (h : l.length ≤ 1000000) : impl_copyInts.f l = some l := by
  unfold impl_copyInts.f
  have c1 : ([] : List Int).length + l.length < 17592186044416 := by simp; omega
  simp only [Option.bind_some, c1, if_true, List.nil_append]
theorem impl_letter {s : List Nat × List Nat} (hs : Sf s.1 s.2) (c : Int) (hc : letB c = true) : Ev (fun k => impl_letterSurface.f k (I s.1) (I s.2) c) (I (lt c s).1, I (lt c s).2) := by
  have hle := hs.le
  have heq := hs.eq
  have h0 := surfB_I.mpr hs
  have k1 := copy_ev (I s.1) (by rw [I_len]; omega)
  have k2 := copy_ev (I s.2) (by rw [I_len]; omega)
  have hc := of_decide_eq_true hc
  unfold impl_letterSurface.f lt
  by_cases h1 : c = 84
  · simp only [h1, if_true]
    refine Ev.bind (a := (I s.1, I (thn (inv s.1) s.2), true)) ?_ (Ev.now _)
    unfold impl_ShearSurface.f
    refine Ev.bind (impl_surf _ _) ?_
    simp only [h0, k1, if_true, Option.bind_some]
    exact Ev.bind (impl_inv hs.pr hs.le) (Ev.bind (impl_then (isP_inv hs.pr) hs.pu (by rw [inv_len, hs.eq]) (by rw [inv_len]; exact hs.le)) (Ev.now _))
  · by_cases h2 : c = 116
    · have n1 : ¬ ((116 : Int) = 84) := by omega
      simp only [h2, n1, if_true, if_false]
      refine Ev.bind (a := (I s.1, I (thn s.1 s.2), true)) ?_ (Ev.now _)
      unfold impl_UnshearSurface.f
      refine Ev.bind (impl_surf _ _) ?_
      simp only [h0, k1, if_true, Option.bind_some]
      exact Ev.bind (impl_then hs.pr hs.pu hs.eq.symm hs.le) (Ev.now _)
    · by_cases h3 : c = 83
      · have n1 : ¬ ((83 : Int) = 84) := by omega
        have n2 : ¬ ((83 : Int) = 116) := by omega
        simp only [h3, n1, n2, if_true, if_false]
        refine Ev.bind (a := (I (inv s.2), I s.1, true)) ?_ (Ev.now _)
        unfold impl_TurnSurface.f
        refine Ev.bind (impl_surf _ _) ?_
        simp only [h0, if_true]
        refine Ev.bind (impl_inv hs.pu (by omega)) ?_
        simp only [k1, Option.bind_some]
        exact Ev.now _
      · have h4 : c = 115 := by omega
        have n1 : ¬ ((115 : Int) = 84) := by omega
        have n2 : ¬ ((115 : Int) = 116) := by omega
        have n3 : ¬ ((115 : Int) = 83) := by omega
        simp only [h4, n1, n2, n3, if_true, if_false]
        refine Ev.bind (a := (I s.2, I (inv s.1), true)) ?_ (Ev.now _)
        unfold impl_UnturnSurface.f
        refine Ev.bind (impl_surf _ _) ?_
        simp only [h0, k2, if_true, Option.bind_some]
        exact Ev.bind (impl_inv hs.pr hs.le) (Ev.now _)
end Go.Proofs.Ytcggfjpnfodbaaa.M
end
section
/- Surfaces that are alike; surfaces that a word keeps. No conditions. -/
namespace Go.Proofs.Ytcggfjpnfodbaaa.M
set_option linter.unusedVariables false
set_option linter.unusedSimpArgs false
open Go.RowKit Go.Proofs.YtcggfjpnfodbaaaW.PrintWords Go.Proofs.YtcggfjpnfodbaaaW.PrintLast Go.Proofs.YtcggfjpnfodbaaaW.PrintMore Go.Proofs.Ytcggfjpnfodbaaa.A
theorem impl_same (a b : List Nat × List Nat) (h1 : a.1.length ≤ 1000000) (h2 : a.2.length ≤ 1000000) : Ev (fun k => impl_SameSurface.f k (I a.1) (I a.2) (I b.1) (I b.2)) (decide (a = b)) := by
  unfold impl_SameSurface.f
  refine Ev.bind (equal_ev a.1 b.1 (by omega)) ?_
  by_cases h : a.1 = b.1
  · have e : decide (a = b) = decide (a.2 = b.2) := by
      rw [decide_eq_decide, Prod.ext_iff]
      simp [h]
    rw [e]
    simp only [h, decide_true, if_true]
    exact Ev.bind (equal_ev a.2 b.2 (by omega)) (Ev.now _)
  · have e : decide (a = b) = false := by
      rw [decide_eq_false_iff_not]
      intro e
      exact h (by rw [e])
    rw [e]
    simp only [h, decide_false, Bool.false_eq_true, if_false]
    exact Ev.now _
theorem spec_same (a b : List Nat × List Nat) (h1 : a.1.length ≤ 1000000) (h2 : a.2.length ≤ 1000000) : Ev (fun k => spec_SameSurface.f k (I a.1) (I a.2) (I b.1) (I b.2)) (decide (a = b)) := by
  unfold spec_SameSurface.f
  refine Ev.bind (sameList_nat a.1 b.1 (by omega)) ?_
  by_cases h : a.1 = b.1
  · have e : decide (a = b) = decide (a.2 = b.2) := by
      rw [decide_eq_decide, Prod.ext_iff]
      simp [h]
    rw [e]
    simp only [h, decide_true, if_true]
    exact Ev.bind (sameList_nat a.2 b.2 (by omega)) (Ev.now _)
  · have e : decide (a = b) = false := by
      rw [decide_eq_false_iff_not]
      intro e
      exact h (by rw [e])
    rw [e]
    simp only [h, decide_false, Bool.false_eq_true, if_false]
    exact Ev.now _
end Go.Proofs.Ytcggfjpnfodbaaa.M
end
