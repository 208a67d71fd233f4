/- Lemmas for the row FnExactSurfacesWith: the program's functions told as plain functions, and plain mathematics. No conditions. -/
import Derived.Ground.SlsfProg
import Derived.Shelf.SlSortCmp.NoneTotal
import Derived.Test.YtoijcallajegfaaProg
import Derived.Test.YtoijcallajegfaaQFnExactSurfacesWith2
section
namespace Go.Proofs.Ytoijcallajegfaa.A
open Go.RowKit Go.Proofs.YtoijcallajegfaaW.PrintWords Go.Proofs.YtoijcallajegfaaW.PrintLast Go.Proofs.YtoijcallajegfaaW.PrintMore
attribute [local go_sem] max2_int min2_int max_two min_two max_three min_three max_four min_four
set_option linter.unusedVariables false
set_option linter.unusedSimpArgs false
def spec_l03Canon.l0 : Nat → Int → List Int → List Int → List Int → List Int → Option (List Int × List Int)
  | 0, _, _, _, _, _ => none
  | k + 1, x4, x1022000, x1022001, x1033000, x1033001 => if x4 < (x1022000.length : Int) then ((spec_l03Names.f k x1022000 x1022001 x4).bind fun t1033 => ((spec_l03Rename.f k x1022000 x1022001 t1033).bind fun bt1036 => ((spec_l03Before.f k bt1036.1 bt1036.2 x1033000 x1033001).bind fun t1043 => (if t1043 = true then (spec_l03Canon.l0 k (wrap64 (x4 + 1)) x1022000 x1022001 bt1036.1 bt1036.2) else (spec_l03Canon.l0 k (wrap64 (x4 + 1)) x1022000 x1022001 x1033000 x1033001))))) else (some (x1033000, x1033001))
def spec_l03Canon.f (k : Nat) (l0_0 : List Int) (l0_1 : List Int) : Option (List Int × List Int) := (spec_l03Names.f k l0_0 l0_1 0).bind fun t1023 => ((spec_l03Rename.f k l0_0 l0_1 t1023).bind fun bt1026 => (spec_l03Canon.l0 k 1 l0_0 l0_1 bt1026.1 bt1026.2))
theorem spec_l03Canon.mono_l : ∀ k, (∀ y0 y1 y2 y3 y4, LeO (spec_l03Canon.l0 k y0 y1 y2 y3 y4) (spec_l03Canon.l0 (k + 1) y0 y1 y2 y3 y4))
  | 0 => fun _ _ _ _ _ r h => by simp [spec_l03Canon.l0] at h
  | k + 1 => by
    have ih0 := spec_l03Canon.mono_l k
    · intro y0 y1 y2 y3 y4
      unfold spec_l03Canon.l0
      repeat' first|exact ih0 _ _ _ _ _|exact spec_l03Before.mono _ _ _ _ _|exact spec_l03Names.mono _ _ _ _|exact spec_l03Rename.mono _ _ _ _|exact lo_|refine LeO.ite ?_ ?_|refine LeO.bind ?_ (fun _ => ?_)
theorem spec_l03Canon.mono : ∀ a0 a1 k, LeO (spec_l03Canon.f k a0 a1) (spec_l03Canon.f (k + 1) a0 a1) := by
  intro a0 a1 k
  have ih0 := spec_l03Canon.mono_l k
  unfold spec_l03Canon.f
  repeat' first|exact ih0 _ _ _ _ _|exact spec_l03Before.mono _ _ _ _ _|exact spec_l03Names.mono _ _ _ _|exact spec_l03Rename.mono _ _ _ _|exact lo_|refine LeO.ite ?_ ?_|refine LeO.bind ?_ (fun _ => ?_)
set_option maxHeartbeats 8000000 in
set_option maxRecDepth 100000 in
theorem spec_l03Canon.calls (k : Nat) (A0_0 : Option Addr) (c0_0 : Nat) (l0_0 : List Int) (A0_1 : Option Addr) (c0_1 : Nat) (l0_1 : List Int) (r1 : List Int) (r2 : List Int) (w : World) (hr0_0 : Kd.C (Kd.int .i64) w A0_0 l0_0.length l0_0) (hc0_0 : l0_0.length ≤ c0_0) (hr0_1 : Kd.C (Kd.int .i64) w A0_1 l0_1.length l0_1) (hc0_1 : l0_1.length ≤ c0_1) (h : spec_l03Canon.f k l0_0 l0_1 = some (r1, r2)) :
    Calls Try.prog 87 #[.agg #[.slice A0_0 l0_0.length c0_0, .slice A0_1 l0_1.length c0_1]] w fun e w' => ∃ v0_ v1_ : Value, e = .returned (.agg #[v0_, v1_]) ∧ Kd.R (Kd.int .i64) 3 w' w.heap.size (fun k_ => some k_ ≠ (v1_ : Value).ownBlock) v0_ r1 ∧ Kd.R (Kd.int .i64) 3 w' w.heap.size (fun k_ => some k_ ≠ (v0_ : Value).ownBlock) v1_ r2 ∧ Below w.heap.size w w' := by
  have hu33 := Try.underlying33
  have HR0_0 := Aside0.mk hr0_0
  have HC0_0 := Aside0.mk hc0_0
  clear hr0_0 hc0_0
  have HR0_1 := Aside0.mk hr0_1
  have HC0_1 := Aside0.mk hc0_1
  clear hr0_1 hc0_1
  have HB := Aside0.mk (Below.refl w.heap.size w)
  have H := h
  unfold spec_l03Canon.f at H
  clear h
  obtain ⟨t1023, A2, H⟩ := bi_ H
  obtain ⟨⟨t1026, t1029⟩, A3, H⟩ := bi_ H
  try dsimp only at H
  have H' := Aside0.mk H
  clear H
  go_enter Try.func87, Try.ntmps87
  try go_wp2_with (first | ((with_reducible refine gate_dst (N := 1) rfl ?_); refine bx_ 1 #[.slice A0_0 l0_0.length c0_0, .slice A0_1 l0_1.length c0_1] 33 ?_; intro gb1021 hg w4 hbox hb; have BK1021 := Aside0.mk hbox; have GW1021 := gw_ w hg; have GE1021 := GW1021; replace HB := b1_ hb; clear hb hbox hg) | ((with_reducible refine gate_dst (N := 2) rfl ?_); refine bx_ 2 #[.slice none 0 0, .slice none 0 0] 33 ?_; intro gb1022 hg w5 hbox hb; have BK1022 := Aside0.mk hbox; have GW1022 := gw_ w hg; have GE1022 := GW1022; replace HB := b1_ hb; have NB1021_1022 := gN_ BK1021 hg; have NB1022_1021 := gP_ BK1021 hg; replace BK1021 := bb_ BK1021 hb; clear hb hbox hg))
  replace BK1021 := Aside0.mk (blk_drew BK1021.out)
  replace BK1022 := Aside0.mk (blk_drew BK1022.out)
  replace HB := Aside0.mk (below_drew1 HB.out)
  refine start_ (n := 6) (S := fun w' => w'.cell? ⟨gb1021, 0, none⟩ = some (.slice A0_0 l0_0.length c0_0) ∧ w'.cell? ⟨gb1021, 1, none⟩ = some (.slice A0_1 l0_1.length c0_1)) (ds := []) (bl_ 6 0) (by kernel_rfl) rfl (by kernel_rfl) ⟨cz0_ BK1021, cz1_ BK1021⟩ (fun hHeld => ?_)
  generalize w5.drew = w6 at BK1021 BK1022 HB hHeld ⊢
  refine take_ (i := 0) (N := some 6) (v := ?_) (a' := ?_) (bl_ 6 1) rfl rfl (by kernel_rfl) (fun _ _ _ h => h) (Or.inl ⟨by rfl, ?_⟩) hHeld ?_ ?_
  rotate_left
  · rintro w' ⟨s0, s1⟩
    go_simp
    with_reducible rfl
  rotate_left
  · simp only [Act.put, List.setIfInBounds_toArray, List.set_cons_zero, List.set_cons_succ, i64_w, i32_w]
    rfl
  refine take_ (i := 1) (N := some 7) (v := ?_) (a' := ?_) (bl_ 6 3) rfl rfl (by kernel_rfl) (fun _ _ _ h => h) (Or.inl ⟨by rfl, ?_⟩) hHeld ?_ ?_
  rotate_left
  · rintro w' ⟨s0, s1⟩
    go_simp
    with_reducible rfl
  rotate_left
  · simp only [Act.put, List.setIfInBounds_toArray, List.set_cons_zero, List.set_cons_succ, i64_w, i32_w]
    rfl
  refine join_ (σ := Value × Value × Value × Nat) 1 (bl_ 6 31) (fun s_ => [(8, s_.1), (9, .agg #[s_.2.1, s_.2.2.1]), (3, .pointer (some ⟨s_.2.2.2, 0, none⟩))]) (fun s_ w' => (w'.cell? ⟨gb1021, 0, none⟩ = some (.slice A0_0 l0_0.length c0_0) ∧ w'.cell? ⟨gb1021, 1, none⟩ = some (.slice A0_1 l0_1.length c0_1)) ∧ (Kd.R (Kd.int .i64) 3 w' w.heap.size (fun k_ => some k_ ≠ (s_.2.1 : Value).ownBlock ∧ some k_ ≠ (s_.2.2.1 : Value).ownBlock) s_.1 t1023) ∧ (Kd.R (Kd.int .i64) 3 w' w.heap.size (fun k_ => some k_ ≠ (s_.1 : Value).ownBlock ∧ some k_ ≠ (s_.2.2.1 : Value).ownBlock) s_.2.1 t1026) ∧ (Kd.R (Kd.int .i64) 3 w' w.heap.size (fun k_ => some k_ ≠ (s_.1 : Value).ownBlock ∧ some k_ ≠ (s_.2.1 : Value).ownBlock) s_.2.2.1 t1029) ∧ (w'.heap[gb1021]? = some (.cells #[.slice A0_0 l0_0.length c0_0, .slice A0_1 l0_1.length c0_1] 33 (0, 0))) ∧ (w'.heap[gb1022]? = some (.cells #[.slice none 0 0, .slice none 0 0] 33 (0, 0))) ∧ (w'.heap[s_.2.2.2]? = some (.cells #[.slice none 0 0, .slice none 0 0] 33 (0, 0))) ∧ (w.heap.size ≤ s_.2.2.2) ∧ (w.heap.size ≤ s_.2.2.2) ∧ (gb1021 ≠ s_.2.2.2) ∧ (s_.2.2.2 ≠ gb1021) ∧ (gb1022 ≠ s_.2.2.2) ∧ (s_.2.2.2 ≠ gb1022) ∧ (Below w.heap.size w w')) ?_ ?_
  rotate_left
  · intro hCont
    refine two_ (i := 2) (j := 4) (Ni := some 8) (Nj := some 3) (bl_ 6 7) (bl_ 6 19) rfl rfl rfl rfl (by kernel_rfl) (by decide) (by decide) (fun K hK => ?_) (fun K hK => ?_)
    · skip
      refine gO_ Try.func130 #[.agg #[.slice A0_0 l0_0.length c0_0, .slice A0_1 l0_1.length c0_1], .int .i64 0] (by rfl) rfl rfl qa_ ?_
      with_reducible refine (spec_l03Names.calls k _ _ l0_0 _ _ l0_1 0 t1023 _ (cb_ HR0_0) HC0_0.out (cb_ HR0_1) HC0_1.out A2.out).mono ?_
      rintro e w7 ⟨v1024, rfl, ho0, hb⟩
      refine ⟨_, rfl, ?_⟩
      have HO1025 := rl_ w ho0
      replace BK1021 := bb_ BK1021 hb
      replace BK1022 := bb_ BK1022 hb
      replace HB := b1_ hb
      clear hb ho0
      obtain ⟨Ao8, co8, eo8⟩ := Kd.R_slice HO1025.out
      (first | subst eo8 | (injection eo8 with f1_ f2_ f3_; have f4_ := f1_.symm; have f5_ := f3_.symm; clear f1_ f2_ f3_; subst f4_; subst f5_))
      refine hK.out _ _ ⟨cz0_ BK1021, cz1_ BK1021⟩ (fun hHeld => ?_)
      clear hK K
      refine no_ (some 8) ?_
      refine two_ (i := 3) (j := 4) (Ni := some 9) (Nj := some 3) (bl_ 6 15) (bl_ 6 23) rfl rfl rfl rfl (by kernel_rfl) (by decide) (by decide) (fun K hK => ?_) (fun K hK => ?_)
      · skip
        refine gO_ Try.func129 #[.agg #[.slice A0_0 l0_0.length c0_0, .slice A0_1 l0_1.length c0_1], .slice Ao8 t1023.length co8] (by rfl) rfl rfl qa_ ?_
        with_reducible refine (spec_l03Rename.calls k _ _ l0_0 _ _ l0_1 _ _ t1023 t1026 t1029 _ (cb_ HR0_0) HC0_0.out (cb_ HR0_1) HC0_1.out (cr_ HO1025) ((Kd.R_reads' HO1025.out).2.1) A3.out).mono ?_
        rintro e w9 ⟨v1027, v1030, rfl, ho0, ho1, hb⟩
        refine ⟨_, rfl, ?_⟩
        have HO1028 := Aside0.mk (Kd.R_lower (Kd.R_new' ho0 (Kd.R_lt (rr_ HO1025))) (below_size hB_))
        have HO1031 := Aside0.mk (Kd.R_lower (Kd.R_new' ho1 (Kd.R_lt (rr_ HO1025))) (below_size hB_))
        replace HO1025 := Aside0.mk (Kd.R_mono (Kd.R_told (Kd.R_told (Kd.R_old (rr_ HO1025) hb) (Kd.R_base ho0)) (Kd.R_base ho1)) (fun _ h_ => h_.1))
        replace BK1021 := bb_ BK1021 hb
        replace BK1022 := bb_ BK1022 hb
        replace HB := b1_ hb
        clear hb ho0 ho1
        refine hK.out _ _ ⟨cz0_ BK1021, cz1_ BK1021⟩ (fun hHeld => ?_)
        clear hK K
        refine no_ (some 9) ?_
        refine one_ (i := 4) (N := some 3) (bl_ 6 31) rfl rfl (by kernel_rfl) (by decide) (fun K hK => ?_)
        refine box_step ?hg (N := 3) ?hd (cs := #[.slice none 0 0, .slice none 0 0]) (t := 33) ?hr ?_; (case hd => rfl); (case hg => rfl); (case hr => first | (go_simp; done) | (go_simp; rfl))
        intro gb1032 hg w10 hbox hb
        replace HO1025 := rb_ HO1025 hb
        replace HO1028 := rb_ HO1028 hb
        replace HO1031 := rb_ HO1031 hb
        have BK1032 := Aside0.mk hbox
        have GW1032 := gw_ w hg
        have GE1032 := GW1032
        replace HB := b1_ hb
        have NB1021_1032 := gN_ BK1021 hg
        have NB1032_1021 := gP_ BK1021 hg
        replace BK1021 := bb_ BK1021 hb
        have NB1022_1032 := gN_ BK1022 hg
        have NB1032_1022 := gP_ BK1022 hg
        replace BK1022 := bb_ BK1022 hb
        clear hb hbox hg
        refine hK.out _ _ ⟨cz0_ BK1021, cz1_ BK1021⟩ (fun hHeld => ?_)
        clear hK K
        refine no_ (some 3) ?_
        exact norm_ (by simp only [putAll, Act.put, List.setIfInBounds_toArray, List.set_cons_zero, List.set_cons_succ]) (hCont (.slice Ao8 t1023.length co8, v1027, v1030, gb1032) _ ⟨hHeld, (rw_ (Kd.R_mono HO1025.out (fun _ hk => ⟨hk.1.2, hk.2⟩))), (rw_ (Kd.R_mono HO1028.out (fun _ hk => ⟨hk.2, hk.1⟩))), (rw_ (Kd.R_mono HO1031.out (fun _ hk => ⟨hk.2, hk.1⟩))), (kk_ BK1021), (kk_ BK1022), (kk_ BK1032), GW1032.out, GE1032.out, NB1021_1032.out, NB1032_1021.out, NB1022_1032.out, NB1032_1022.out, hB_⟩)
      · skip
        refine box_step ?hg (N := 3) ?hd (cs := #[.slice none 0 0, .slice none 0 0]) (t := 33) ?hr ?_; (case hd => rfl); (case hg => rfl); (case hr => first | (go_simp; done) | (go_simp; rfl))
        intro gb1032 hg w8 hbox hb
        replace HO1025 := rb_ HO1025 hb
        have BK1032 := Aside0.mk hbox
        have GW1032 := gw_ w hg
        have GE1032 := GW1032
        replace HB := b1_ hb
        have NB1021_1032 := gN_ BK1021 hg
        have NB1032_1021 := gP_ BK1021 hg
        replace BK1021 := bb_ BK1021 hb
        have NB1022_1032 := gN_ BK1022 hg
        have NB1032_1022 := gP_ BK1022 hg
        replace BK1022 := bb_ BK1022 hb
        clear hb hbox hg
        obtain ⟨Ao9, co9, eo9⟩ := Kd.R_slice HO1025.out
        (first | subst eo9 | (injection eo9 with f1_ f2_ f3_; have f4_ := f1_.symm; have f5_ := f3_.symm; clear f1_ f2_ f3_; subst f4_; subst f5_))
        refine hK.out _ _ ⟨cz0_ BK1021, cz1_ BK1021⟩ (fun hHeld => ?_)
        clear hK K
        refine no_ (some 3) ?_
        refine one_ (i := 3) (N := some 9) (bl_ 6 31) rfl rfl (by kernel_rfl) (by decide) (fun K hK => ?_)
        refine gO_ Try.func129 #[.agg #[.slice A0_0 l0_0.length c0_0, .slice A0_1 l0_1.length c0_1], .slice Ao9 t1023.length co9] (by rfl) rfl rfl qa_ ?_
        with_reducible refine (spec_l03Rename.calls k _ _ l0_0 _ _ l0_1 _ _ t1023 t1026 t1029 _ (cb_ HR0_0) HC0_0.out (cb_ HR0_1) HC0_1.out (cr_ HO1025) ((Kd.R_reads' HO1025.out).2.1) A3.out).mono ?_
        rintro e w10 ⟨v1027, v1030, rfl, ho0, ho1, hb⟩
        refine ⟨_, rfl, ?_⟩
        have HO1028 := Aside0.mk (Kd.R_lower (Kd.R_new' ho0 (Kd.R_lt (rr_ HO1025))) (below_size hB_))
        have HO1031 := Aside0.mk (Kd.R_lower (Kd.R_new' ho1 (Kd.R_lt (rr_ HO1025))) (below_size hB_))
        replace HO1025 := Aside0.mk (Kd.R_mono (Kd.R_told (Kd.R_told (Kd.R_old (rr_ HO1025) hb) (Kd.R_base ho0)) (Kd.R_base ho1)) (fun _ h_ => h_.1))
        replace BK1021 := bb_ BK1021 hb
        replace BK1022 := bb_ BK1022 hb
        replace BK1032 := bb_ BK1032 hb
        replace HB := b1_ hb
        clear hb ho0 ho1
        refine hK.out _ _ ⟨cz0_ BK1021, cz1_ BK1021⟩ (fun hHeld => ?_)
        clear hK K
        refine no_ (some 9) ?_
        exact norm_ (by simp only [putAll, Act.put, List.setIfInBounds_toArray, List.set_cons_zero, List.set_cons_succ]) (hCont (.slice Ao9 t1023.length co9, v1027, v1030, gb1032) _ ⟨hHeld, (rw_ (Kd.R_mono HO1025.out (fun _ hk => ⟨hk.1.2, hk.2⟩))), (rw_ (Kd.R_mono HO1028.out (fun _ hk => ⟨hk.2, hk.1⟩))), (rw_ (Kd.R_mono HO1031.out (fun _ hk => ⟨hk.2, hk.1⟩))), (kk_ BK1021), (kk_ BK1022), (kk_ BK1032), GW1032.out, GE1032.out, NB1021_1032.out, NB1032_1021.out, NB1022_1032.out, NB1032_1022.out, hB_⟩)
    · skip
      refine box_step ?hg (N := 3) ?hd (cs := #[.slice none 0 0, .slice none 0 0]) (t := 33) ?hr ?_; (case hd => rfl); (case hg => rfl); (case hr => first | (go_simp; done) | (go_simp; rfl))
      intro gb1032 hg w7 hbox hb
      have BK1032 := Aside0.mk hbox
      have GW1032 := gw_ w hg
      have GE1032 := GW1032
      replace HB := b1_ hb
      have NB1021_1032 := gN_ BK1021 hg
      have NB1032_1021 := gP_ BK1021 hg
      replace BK1021 := bb_ BK1021 hb
      have NB1022_1032 := gN_ BK1022 hg
      have NB1032_1022 := gP_ BK1022 hg
      replace BK1022 := bb_ BK1022 hb
      clear hb hbox hg
      refine hK.out _ _ ⟨cz0_ BK1021, cz1_ BK1021⟩ (fun hHeld => ?_)
      clear hK K
      refine no_ (some 3) ?_
      refine one_ (i := 2) (N := some 8) (bl_ 6 23) rfl rfl (by kernel_rfl) (by decide) (fun K hK => ?_)
      refine gO_ Try.func130 #[.agg #[.slice A0_0 l0_0.length c0_0, .slice A0_1 l0_1.length c0_1], .int .i64 0] (by rfl) rfl rfl qa_ ?_
      with_reducible refine (spec_l03Names.calls k _ _ l0_0 _ _ l0_1 0 t1023 _ (cb_ HR0_0) HC0_0.out (cb_ HR0_1) HC0_1.out A2.out).mono ?_
      rintro e w8 ⟨v1024, rfl, ho0, hb⟩
      refine ⟨_, rfl, ?_⟩
      have HO1025 := rl_ w ho0
      replace BK1021 := bb_ BK1021 hb
      replace BK1022 := bb_ BK1022 hb
      replace BK1032 := bb_ BK1032 hb
      replace HB := b1_ hb
      clear hb ho0
      obtain ⟨Ao9, co9, eo9⟩ := Kd.R_slice HO1025.out
      (first | subst eo9 | (injection eo9 with f1_ f2_ f3_; have f4_ := f1_.symm; have f5_ := f3_.symm; clear f1_ f2_ f3_; subst f4_; subst f5_))
      refine hK.out _ _ ⟨cz0_ BK1021, cz1_ BK1021⟩ (fun hHeld => ?_)
      clear hK K
      refine no_ (some 8) ?_
      refine one_ (i := 3) (N := some 9) (bl_ 6 31) rfl rfl (by kernel_rfl) (by decide) (fun K hK => ?_)
      refine gO_ Try.func129 #[.agg #[.slice A0_0 l0_0.length c0_0, .slice A0_1 l0_1.length c0_1], .slice Ao9 t1023.length co9] (by rfl) rfl rfl qa_ ?_
      with_reducible refine (spec_l03Rename.calls k _ _ l0_0 _ _ l0_1 _ _ t1023 t1026 t1029 _ (cb_ HR0_0) HC0_0.out (cb_ HR0_1) HC0_1.out (cr_ HO1025) ((Kd.R_reads' HO1025.out).2.1) A3.out).mono ?_
      rintro e w10 ⟨v1027, v1030, rfl, ho0, ho1, hb⟩
      refine ⟨_, rfl, ?_⟩
      have HO1028 := Aside0.mk (Kd.R_lower (Kd.R_new' ho0 (Kd.R_lt (rr_ HO1025))) (below_size hB_))
      have HO1031 := Aside0.mk (Kd.R_lower (Kd.R_new' ho1 (Kd.R_lt (rr_ HO1025))) (below_size hB_))
      replace HO1025 := Aside0.mk (Kd.R_mono (Kd.R_told (Kd.R_told (Kd.R_old (rr_ HO1025) hb) (Kd.R_base ho0)) (Kd.R_base ho1)) (fun _ h_ => h_.1))
      replace BK1021 := bb_ BK1021 hb
      replace BK1022 := bb_ BK1022 hb
      replace BK1032 := bb_ BK1032 hb
      replace HB := b1_ hb
      clear hb ho0 ho1
      refine hK.out _ _ ⟨cz0_ BK1021, cz1_ BK1021⟩ (fun hHeld => ?_)
      clear hK K
      refine no_ (some 9) ?_
      exact norm_ (by simp only [putAll, Act.put, List.setIfInBounds_toArray, List.set_cons_zero, List.set_cons_succ]) (hCont (.slice Ao9 t1023.length co9, v1027, v1030, gb1032) _ ⟨hHeld, (rw_ (Kd.R_mono HO1025.out (fun _ hk => ⟨hk.1.2, hk.2⟩))), (rw_ (Kd.R_mono HO1028.out (fun _ hk => ⟨hk.2, hk.1⟩))), (rw_ (Kd.R_mono HO1031.out (fun _ hk => ⟨hk.2, hk.1⟩))), (kk_ BK1021), (kk_ BK1022), (kk_ BK1032), GW1032.out, GE1032.out, NB1021_1032.out, NB1032_1021.out, NB1022_1032.out, NB1032_1022.out, hB_⟩)
  rintro ⟨v1024, v1027, v1030, gb1032⟩ w11 ⟨hS_, h0_, h1_, h2_, h3_, h4_, h5_, h6_, h7_, h8_, h9_, h10_, h11_, h12_⟩
  have n0_ : Aside0 (Kd.R (Kd.int .i64) 3 w11 w.heap.size (fun k_ => some k_ ≠ (v1027 : Value).ownBlock ∧ some k_ ≠ (v1030 : Value).ownBlock) v1024 t1023) := ⟨h0_⟩
  have n1_ : Aside0 (Kd.R (Kd.int .i64) 3 w11 w.heap.size (fun k_ => some k_ ≠ (v1024 : Value).ownBlock ∧ some k_ ≠ (v1030 : Value).ownBlock) v1027 t1026) := ⟨h1_⟩
  have n2_ : Aside0 (Kd.R (Kd.int .i64) 3 w11 w.heap.size (fun k_ => some k_ ≠ (v1024 : Value).ownBlock ∧ some k_ ≠ (v1027 : Value).ownBlock) v1030 t1029) := ⟨h2_⟩
  have n3_ : Aside0 (w11.heap[gb1021]? = some (.cells #[.slice A0_0 l0_0.length c0_0, .slice A0_1 l0_1.length c0_1] 33 (0, 0))) := ⟨h3_⟩
  have n4_ : Aside0 (w11.heap[gb1022]? = some (.cells #[.slice none 0 0, .slice none 0 0] 33 (0, 0))) := ⟨h4_⟩
  have n5_ : Aside0 (w11.heap[gb1032]? = some (.cells #[.slice none 0 0, .slice none 0 0] 33 (0, 0))) := ⟨h5_⟩
  have n6_ : Aside0 (w.heap.size ≤ gb1032) := ⟨h6_⟩
  have n7_ : Aside0 (w.heap.size ≤ gb1032) := ⟨h7_⟩
  have n8_ : Aside0 (gb1021 ≠ gb1032) := ⟨h8_⟩
  have n9_ : Aside0 (gb1032 ≠ gb1021) := ⟨h9_⟩
  have n10_ : Aside0 (gb1022 ≠ gb1032) := ⟨h10_⟩
  have n11_ : Aside0 (gb1032 ≠ gb1022) := ⟨h11_⟩
  have n12_ : Aside0 (Below w.heap.size w w11) := ⟨h12_⟩
  clear BK1021
  clear BK1022
  clear HB
  clear h0_ h1_ h2_ h3_ h4_ h5_ h6_ h7_ h8_ h9_ h10_ h11_ h12_
  have HO1025 := n0_
  have HO1028 := n1_
  have HO1031 := n2_
  have BK1021 := n3_
  have BK1022 := n4_
  have BK1032 := n5_
  have GW1032 := n6_
  have GE1032 := n7_
  have NB1021_1032 := n8_
  have NB1032_1021 := n9_
  have NB1022_1032 := n10_
  have NB1032_1022 := n11_
  have HB := n12_
  clear n0_ n1_ n2_ n3_ n4_ n5_ n6_ n7_ n8_ n9_ n10_ n11_ n12_
  have hHeld : w11.cell? ⟨gb1021, 0, none⟩ = some (.slice A0_0 l0_0.length c0_0) ∧ w11.cell? ⟨gb1021, 1, none⟩ = some (.slice A0_1 l0_1.length c0_1) := hS_
  obtain ⟨Ao12, co12, eo12⟩ := Kd.R_slice HO1028.out
  (first | subst eo12 | (injection eo12 with f1_ f2_ f3_; have f4_ := f1_.symm; have f5_ := f3_.symm; clear f1_ f2_ f3_; subst f4_; subst f5_))
  obtain ⟨Ao14, co14, eo14⟩ := Kd.R_slice HO1031.out
  (first | subst eo14 | (injection eo14 with f1_ f2_ f3_; have f4_ := f1_.symm; have f5_ := f3_.symm; clear f1_ f2_ f3_; subst f4_; subst f5_))
  refine norm_ (a' := ?_) ?_ ?_
  rotate_left
  · simp only [putAll, Act.put, List.setIfInBounds_toArray, List.set_cons_zero, List.set_cons_succ]
    rfl
  refine one_ (i := 5) (N := none) (bl_ 6 63) rfl rfl (by kernel_rfl) (by decide) (fun K hK => ?_)
  have hs13 : w11.cell? ⟨gb1032, 0, none⟩ = some (.slice none 0 0) := cz0_ BK1032
  have hfs13 := blk_frozen BK1032.out 0
  have hns13_0 := NB1021_1032.out
  have hns13_1 := NB1022_1032.out
  have hms13_0 := NB1032_1021.out
  have hms13_1 := NB1032_1022.out
  have hs15 : w11.cell? ⟨gb1032, 1, none⟩ = some (.slice none 0 0) := cz1_ BK1032
  have hfs15 := blk_frozen BK1032.out 1
  have hns15_0 := NB1021_1032.out
  have hns15_1 := NB1022_1032.out
  have hms15_0 := NB1032_1021.out
  have hms15_1 := NB1032_1022.out
  refine skip_ (w1 := ?_) (by rfl) rfl ?_ ?_
  rotate_left
  · go_simp
    rfl
  refine hK.out _ _ ⟨((cell_far (p := ⟨gb1032, _, none⟩) NB1021_1032.out _).trans (((cell_far (p := ⟨gb1032, _, none⟩) NB1021_1032.out _).trans (hHeld.1)))), ((cell_far (p := ⟨gb1032, _, none⟩) NB1021_1032.out _).trans (((cell_far (p := ⟨gb1032, _, none⟩) NB1021_1032.out _).trans (hHeld.2))))⟩ (fun hHeld => ?_)
  clear hK K
  refine done_ (by kernel_rfl) ?_
  try go_wp2
  go_loopg [4] k (fun kq v4 w' => ∃ (x4_1 : Int) (x1033000_1 : List Int) (x1033001_1 : List Int) (u1033000 : Value) (u1033001 : Value), v4 = .int .i64 x4_1 ∧ Aside0 (spec_l03Canon.l0 kq x4_1 l0_0 l0_1 x1033000_1 x1033001_1 = some (r1, r2)) ∧ Aside0 (kq ≤ k) ∧ Aside0 (Kd.R (Kd.int .i64) 3 w' w.heap.size (fun k_ => some k_ ≠ (u1033001 : Value).ownBlock) u1033000 x1033000_1) ∧ Aside0 (Kd.R (Kd.int .i64) 3 w' w.heap.size (fun k_ => some k_ ≠ (u1033000 : Value).ownBlock) u1033001 x1033001_1) ∧ Aside0 (w'.heap[gb1021]? = some (.cells #[(.slice A0_0 l0_0.length c0_0), (.slice A0_1 l0_1.length c0_1)] 33 (0, 0))) ∧ Aside0 (w'.heap[gb1022]? = some (.cells #[(.slice none 0 0), (.slice none 0 0)] 33 (0, 0))) ∧ Aside0 (w'.heap[gb1032]? = some (.cells #[u1033000, u1033001] 33 (0, 0))) ∧ Aside0 (Below w.heap.size w w'))
  case atStart => exact ⟨(1), (t1026), (t1029), (.slice Ao12 t1026.length co12), (.slice Ao14 t1029.length co14), qc_, H', ⟨Nat.le_refl _⟩, ⟨(rw_ (Kd.R_mono (fa_ HO1028 BK1032) (fun _ hk => hk.2)))⟩, ⟨(rw_ (Kd.R_mono (fa_ HO1031 BK1032) (fun _ hk => hk.2)))⟩, ⟨by (with_reducible repeat (first | refine blk_drewN ?_ _ | refine blk_drew ?_ | refine blk_alloc ?_ _)); refine blk_far ?_ NB1021_1032.out _; (with_reducible repeat (first | refine blk_drewN ?_ _ | refine blk_drew ?_ | refine blk_alloc ?_ _)); refine blk_far ?_ NB1021_1032.out _; (with_reducible repeat (first | refine blk_drewN ?_ _ | refine blk_drew ?_ | refine blk_alloc ?_ _)); exact BK1021.out⟩, ⟨by (with_reducible repeat (first | refine blk_drewN ?_ _ | refine blk_drew ?_ | refine blk_alloc ?_ _)); refine blk_far ?_ NB1022_1032.out _; (with_reducible repeat (first | refine blk_drewN ?_ _ | refine blk_drew ?_ | refine blk_alloc ?_ _)); refine blk_far ?_ NB1022_1032.out _; (with_reducible repeat (first | refine blk_drewN ?_ _ | refine blk_drew ?_ | refine blk_alloc ?_ _)); exact BK1022.out⟩, ⟨qp_⟩, ⟨hB_⟩⟩
  case round =>
    clear H'
    obtain ⟨x4_1, x1033000_1, x1033001_1, u1033000, u1033001, rfl, HA, HK1, HO_1033000, HO_1033001, BK1021, BK1022, BK1032, HB⟩ := hrel
    cases gk with
    | zero => exact absurd HA.out (by simp [spec_l03Canon.l0])
    | succ k1 =>
      have H := HA.out
      clear HA
      simp only [spec_l03Canon.l0] at H
      by_cases c16 : x4_1 < (l0_0.length : Int)
      · rw [if_pos c16] at H
        have c16b0 := decide_eq_true c16
        clear c16
        obtain ⟨t1033, A17, H⟩ := bi_ H
        obtain ⟨⟨t1036, t1039⟩, A18, H⟩ := bi_ H
        try dsimp only at H
        obtain ⟨t1043, A19, H⟩ := bi_ H
        by_cases c20 : t1043 = true
        · subst c20
          rw [if_pos rfl] at H
          have H' := Aside0.mk H
          clear H
          have hnb21 := NB1021_1022.out
          have hnc21 := NB1022_1021.out
          have hnb22 := NB1021_1032.out
          have hnc22 := NB1032_1021.out
          obtain ⟨hcz23_0, hcz23_1, hfz23_0, hfz23_1⟩ := c2_ BK1021
          try go_wp2
          replace HO_1033000 := Aside0.mk (Kd.R_drew HO_1033000.out)
          replace HO_1033001 := Aside0.mk (Kd.R_drew HO_1033001.out)
          replace BK1021 := Aside0.mk (blk_drew BK1021.out)
          replace BK1022 := Aside0.mk (blk_drew BK1022.out)
          replace BK1032 := Aside0.mk (blk_drew BK1032.out)
          replace HB := Aside0.mk (below_drew1 HB.out)
          refine start_ (n := 7) (S := fun w' => w'.cell? ⟨gb1021, 0, none⟩ = some (.slice A0_0 l0_0.length c0_0) ∧ w'.cell? ⟨gb1021, 1, none⟩ = some (.slice A0_1 l0_1.length c0_1)) (ds := []) (bl_ 7 0) (by kernel_rfl) rfl (by kernel_rfl) ⟨cz0_ BK1021, cz1_ BK1021⟩ (fun hHeld => ?_)
          generalize wr.drew = w24 at HO_1033000 HO_1033001 BK1021 BK1022 BK1032 HB hHeld ⊢
          refine pure_ (i := 2) (N := some 19) (v := ?_) (a' := ?_) (bl_ 7 4) rfl rfl (by kernel_rfl) (fun _ _ _ h => h) (Or.inl ⟨by rfl, ?_⟩) ?_ ?_
          rotate_left
          · intro w'
            go_simp
            with_reducible rfl
          rotate_left
          · simp only [Act.put, List.setIfInBounds_toArray, List.set_cons_zero, List.set_cons_succ, i64_w, i32_w]
            rfl
          refine take_ (i := 0) (N := some 17) (v := ?_) (a' := ?_) (bl_ 7 5) rfl rfl (by kernel_rfl) (fun _ _ _ h => h) (Or.inl ⟨by rfl, ?_⟩) hHeld ?_ ?_
          rotate_left
          · rintro w' ⟨s0, s1⟩
            go_simp
            with_reducible rfl
          rotate_left
          · simp only [Act.put, List.setIfInBounds_toArray, List.set_cons_zero, List.set_cons_succ, i64_w, i32_w]
            rfl
          refine take_ (i := 1) (N := some 18) (v := ?_) (a' := ?_) (bl_ 7 7) rfl rfl (by kernel_rfl) (fun _ _ _ h => h) (Or.inl ⟨by rfl, ?_⟩) hHeld ?_ ?_
          rotate_left
          · rintro w' ⟨s0, s1⟩
            go_simp
            with_reducible rfl
          rotate_left
          · simp only [Act.put, List.setIfInBounds_toArray, List.set_cons_zero, List.set_cons_succ, i64_w, i32_w]
            rfl
          refine join_ (σ := Value × Value × Value × Nat) 1 (bl_ 7 63) (fun s_ => [(20, s_.1), (21, .agg #[s_.2.1, s_.2.2.1]), (5, .pointer (some ⟨s_.2.2.2, 0, none⟩))]) (fun s_ w' => (w'.cell? ⟨gb1021, 0, none⟩ = some (.slice A0_0 l0_0.length c0_0) ∧ w'.cell? ⟨gb1021, 1, none⟩ = some (.slice A0_1 l0_1.length c0_1)) ∧ (Kd.R (Kd.int .i64) 3 w' w.heap.size (fun k_ => some k_ ≠ (s_.2.1 : Value).ownBlock ∧ some k_ ≠ (s_.2.2.1 : Value).ownBlock ∧ some k_ ≠ (u1033000 : Value).ownBlock ∧ some k_ ≠ (u1033001 : Value).ownBlock) s_.1 t1033) ∧ (Kd.R (Kd.int .i64) 3 w' w.heap.size (fun k_ => some k_ ≠ (s_.1 : Value).ownBlock ∧ some k_ ≠ (s_.2.2.1 : Value).ownBlock ∧ some k_ ≠ (u1033000 : Value).ownBlock ∧ some k_ ≠ (u1033001 : Value).ownBlock) s_.2.1 t1036) ∧ (Kd.R (Kd.int .i64) 3 w' w.heap.size (fun k_ => some k_ ≠ (s_.1 : Value).ownBlock ∧ some k_ ≠ (s_.2.1 : Value).ownBlock ∧ some k_ ≠ (u1033000 : Value).ownBlock ∧ some k_ ≠ (u1033001 : Value).ownBlock) s_.2.2.1 t1039) ∧ (Kd.R (Kd.int .i64) 3 w' w.heap.size (fun k_ => some k_ ≠ (s_.1 : Value).ownBlock ∧ some k_ ≠ (s_.2.1 : Value).ownBlock ∧ some k_ ≠ (s_.2.2.1 : Value).ownBlock ∧ some k_ ≠ (u1033001 : Value).ownBlock) u1033000 x1033000_1) ∧ (Kd.R (Kd.int .i64) 3 w' w.heap.size (fun k_ => some k_ ≠ (s_.1 : Value).ownBlock ∧ some k_ ≠ (s_.2.1 : Value).ownBlock ∧ some k_ ≠ (s_.2.2.1 : Value).ownBlock ∧ some k_ ≠ (u1033000 : Value).ownBlock) u1033001 x1033001_1) ∧ (w'.heap[gb1021]? = some (.cells #[.slice A0_0 l0_0.length c0_0, .slice A0_1 l0_1.length c0_1] 33 (0, 0))) ∧ (w'.heap[gb1022]? = some (.cells #[.slice none 0 0, .slice none 0 0] 33 (0, 0))) ∧ (w'.heap[gb1032]? = some (.cells #[u1033000, u1033001] 33 (0, 0))) ∧ (w'.heap[s_.2.2.2]? = some (.cells #[.slice none 0 0, .slice none 0 0] 33 (0, 0))) ∧ (w.heap.size ≤ s_.2.2.2) ∧ (w.heap.size ≤ s_.2.2.2) ∧ (gb1021 ≠ s_.2.2.2) ∧ (s_.2.2.2 ≠ gb1021) ∧ (gb1022 ≠ s_.2.2.2) ∧ (s_.2.2.2 ≠ gb1022) ∧ (gb1032 ≠ s_.2.2.2) ∧ (s_.2.2.2 ≠ gb1032) ∧ (Below w.heap.size w w')) ?_ ?_
          rotate_left
          · intro hCont
            refine two_ (i := 3) (j := 5) (Ni := some 20) (Nj := some 5) (bl_ 7 15) (bl_ 7 39) rfl rfl rfl rfl (by kernel_rfl) (by decide) (by decide) (fun K hK => ?_) (fun K hK => ?_)
            · skip
              refine gO_ Try.func130 #[.agg #[.slice A0_0 l0_0.length c0_0, .slice A0_1 l0_1.length c0_1], .int .i64 x4_1] (by rfl) rfl rfl qa_ ?_
              with_reducible refine (spec_l03Names.calls k1 _ _ l0_0 _ _ l0_1 x4_1 t1033 _ (cb_ HR0_0) HC0_0.out (cb_ HR0_1) HC0_1.out A17.out).mono ?_
              rintro e w25 ⟨v1034, rfl, ho0, hb⟩
              refine ⟨_, rfl, ?_⟩
              have HO1035 := Aside0.mk (Kd.R_lower (Kd.R_new' (Kd.R_new' ho0 (Kd.R_lt (rr_ HO_1033000))) (Kd.R_lt (rr_ HO_1033001))) (below_size hB_))
              replace HO_1033000 := Aside0.mk (Kd.R_elder' (rr_ HO_1033000) (Kd.R_base ho0) hb)
              replace HO_1033001 := Aside0.mk (Kd.R_elder' (rr_ HO_1033001) (Kd.R_base ho0) hb)
              replace BK1021 := bb_ BK1021 hb
              replace BK1022 := bb_ BK1022 hb
              replace BK1032 := bb_ BK1032 hb
              replace HB := b1_ hb
              clear hb ho0
              obtain ⟨Ao26, co26, eo26⟩ := Kd.R_slice HO1035.out
              (first | subst eo26 | (injection eo26 with f1_ f2_ f3_; have f4_ := f1_.symm; have f5_ := f3_.symm; clear f1_ f2_ f3_; subst f4_; subst f5_))
              refine hK.out _ _ ⟨cz0_ BK1021, cz1_ BK1021⟩ (fun hHeld => ?_)
              clear hK K
              refine no_ (some 20) ?_
              refine two_ (i := 4) (j := 5) (Ni := some 21) (Nj := some 5) (bl_ 7 31) (bl_ 7 47) rfl rfl rfl rfl (by kernel_rfl) (by decide) (by decide) (fun K hK => ?_) (fun K hK => ?_)
              · skip
                refine gO_ Try.func129 #[.agg #[.slice A0_0 l0_0.length c0_0, .slice A0_1 l0_1.length c0_1], .slice Ao26 t1033.length co26] (by rfl) rfl rfl qa_ ?_
                with_reducible refine (spec_l03Rename.calls k1 _ _ l0_0 _ _ l0_1 _ _ t1033 t1036 t1039 _ (cb_ HR0_0) HC0_0.out (cb_ HR0_1) HC0_1.out (cr_ HO1035) ((Kd.R_reads' HO1035.out).2.1) A18.out).mono ?_
                rintro e w27 ⟨v1037, v1040, rfl, ho0, ho1, hb⟩
                refine ⟨_, rfl, ?_⟩
                have HO1038 := Aside0.mk (Kd.R_lower (Kd.R_new' (Kd.R_new' (Kd.R_new' ho0 (Kd.R_lt (rr_ HO_1033000))) (Kd.R_lt (rr_ HO_1033001))) (Kd.R_lt (rr_ HO1035))) (below_size hB_))
                have HO1041 := Aside0.mk (Kd.R_lower (Kd.R_new' (Kd.R_new' (Kd.R_new' ho1 (Kd.R_lt (rr_ HO_1033000))) (Kd.R_lt (rr_ HO_1033001))) (Kd.R_lt (rr_ HO1035))) (below_size hB_))
                replace HO_1033000 := Aside0.mk (Kd.R_mono (Kd.R_told (Kd.R_told (Kd.R_old (rr_ HO_1033000) hb) (Kd.R_base ho0)) (Kd.R_base ho1)) (fun _ h_ => h_.1))
                replace HO_1033001 := Aside0.mk (Kd.R_mono (Kd.R_told (Kd.R_told (Kd.R_old (rr_ HO_1033001) hb) (Kd.R_base ho0)) (Kd.R_base ho1)) (fun _ h_ => h_.1))
                replace HO1035 := Aside0.mk (Kd.R_mono (Kd.R_told (Kd.R_told (Kd.R_old (rr_ HO1035) hb) (Kd.R_base ho0)) (Kd.R_base ho1)) (fun _ h_ => h_.1))
                replace BK1021 := bb_ BK1021 hb
                replace BK1022 := bb_ BK1022 hb
                replace BK1032 := bb_ BK1032 hb
                replace HB := b1_ hb
                clear hb ho0 ho1
                refine hK.out _ _ ⟨cz0_ BK1021, cz1_ BK1021⟩ (fun hHeld => ?_)
                clear hK K
                refine no_ (some 21) ?_
                refine one_ (i := 5) (N := some 5) (bl_ 7 63) rfl rfl (by kernel_rfl) (by decide) (fun K hK => ?_)
                refine box_step ?hg (N := 5) ?hd (cs := #[.slice none 0 0, .slice none 0 0]) (t := 33) ?hr ?_; (case hd => rfl); (case hg => rfl); (case hr => first | (go_simp; done) | (go_simp; rfl))
                intro gb1042 hg w28 hbox hb
                replace HO_1033000 := rb_ HO_1033000 hb
                replace HO_1033001 := rb_ HO_1033001 hb
                replace HO1035 := rb_ HO1035 hb
                replace HO1038 := rb_ HO1038 hb
                replace HO1041 := rb_ HO1041 hb
                have BK1042 := Aside0.mk hbox
                have GW1042 := gw_ w hg
                have GE1042 := GW1042
                replace HB := b1_ hb
                have NB1021_1042 := gN_ BK1021 hg
                have NB1042_1021 := gP_ BK1021 hg
                replace BK1021 := bb_ BK1021 hb
                have NB1022_1042 := gN_ BK1022 hg
                have NB1042_1022 := gP_ BK1022 hg
                replace BK1022 := bb_ BK1022 hb
                have NB1032_1042 := gN_ BK1032 hg
                have NB1042_1032 := gP_ BK1032 hg
                replace BK1032 := bb_ BK1032 hb
                clear hb hbox hg
                refine hK.out _ _ ⟨cz0_ BK1021, cz1_ BK1021⟩ (fun hHeld => ?_)
                clear hK K
                refine no_ (some 5) ?_
                exact norm_ (by simp only [putAll, Act.put, List.setIfInBounds_toArray, List.set_cons_zero, List.set_cons_succ]) (hCont (.slice Ao26 t1033.length co26, v1037, v1040, gb1042) _ ⟨hHeld, (rw_ (Kd.R_mono HO1035.out (fun _ hk => ⟨hk.1.2, ⟨hk.2, ⟨hk.1.1.1.2, hk.1.1.2⟩⟩⟩))), (rw_ (Kd.R_mono HO1038.out (fun _ hk => ⟨hk.2, ⟨hk.1.1.1, ⟨hk.1.1.2, hk.1.2⟩⟩⟩))), (rw_ (Kd.R_mono HO1041.out (fun _ hk => ⟨hk.2, ⟨hk.1.1.1, ⟨hk.1.1.2, hk.1.2⟩⟩⟩))), (rw_ (Kd.R_mono HO_1033000.out (fun _ hk => ⟨hk.1.1.2, ⟨hk.1.2, ⟨hk.2, hk.1.1.1⟩⟩⟩))), (rw_ (Kd.R_mono HO_1033001.out (fun _ hk => ⟨hk.1.1.2, ⟨hk.1.2, ⟨hk.2, hk.1.1.1⟩⟩⟩))), (kk_ BK1021), (kk_ BK1022), (kk_ BK1032), (kk_ BK1042), GW1042.out, GE1042.out, NB1021_1042.out, NB1042_1021.out, NB1022_1042.out, NB1042_1022.out, NB1032_1042.out, NB1042_1032.out, hB_⟩)
              · skip
                refine box_step ?hg (N := 5) ?hd (cs := #[.slice none 0 0, .slice none 0 0]) (t := 33) ?hr ?_; (case hd => rfl); (case hg => rfl); (case hr => first | (go_simp; done) | (go_simp; rfl))
                intro gb1042 hg w26 hbox hb
                replace HO_1033000 := rb_ HO_1033000 hb
                replace HO_1033001 := rb_ HO_1033001 hb
                replace HO1035 := rb_ HO1035 hb
                have BK1042 := Aside0.mk hbox
                have GW1042 := gw_ w hg
                have GE1042 := GW1042
                replace HB := b1_ hb
                have NB1021_1042 := gN_ BK1021 hg
                have NB1042_1021 := gP_ BK1021 hg
                replace BK1021 := bb_ BK1021 hb
                have NB1022_1042 := gN_ BK1022 hg
                have NB1042_1022 := gP_ BK1022 hg
                replace BK1022 := bb_ BK1022 hb
                have NB1032_1042 := gN_ BK1032 hg
                have NB1042_1032 := gP_ BK1032 hg
                replace BK1032 := bb_ BK1032 hb
                clear hb hbox hg
                obtain ⟨Ao27, co27, eo27⟩ := Kd.R_slice HO1035.out
                (first | subst eo27 | (injection eo27 with f1_ f2_ f3_; have f4_ := f1_.symm; have f5_ := f3_.symm; clear f1_ f2_ f3_; subst f4_; subst f5_))
                refine hK.out _ _ ⟨cz0_ BK1021, cz1_ BK1021⟩ (fun hHeld => ?_)
                clear hK K
                refine no_ (some 5) ?_
                refine one_ (i := 4) (N := some 21) (bl_ 7 63) rfl rfl (by kernel_rfl) (by decide) (fun K hK => ?_)
                refine gO_ Try.func129 #[.agg #[.slice A0_0 l0_0.length c0_0, .slice A0_1 l0_1.length c0_1], .slice Ao27 t1033.length co27] (by rfl) rfl rfl qa_ ?_
                with_reducible refine (spec_l03Rename.calls k1 _ _ l0_0 _ _ l0_1 _ _ t1033 t1036 t1039 _ (cb_ HR0_0) HC0_0.out (cb_ HR0_1) HC0_1.out (cr_ HO1035) ((Kd.R_reads' HO1035.out).2.1) A18.out).mono ?_
                rintro e w28 ⟨v1037, v1040, rfl, ho0, ho1, hb⟩
                refine ⟨_, rfl, ?_⟩
                have HO1038 := Aside0.mk (Kd.R_lower (Kd.R_new' (Kd.R_new' (Kd.R_new' ho0 (Kd.R_lt (rr_ HO_1033000))) (Kd.R_lt (rr_ HO_1033001))) (Kd.R_lt (rr_ HO1035))) (below_size hB_))
                have HO1041 := Aside0.mk (Kd.R_lower (Kd.R_new' (Kd.R_new' (Kd.R_new' ho1 (Kd.R_lt (rr_ HO_1033000))) (Kd.R_lt (rr_ HO_1033001))) (Kd.R_lt (rr_ HO1035))) (below_size hB_))
                replace HO_1033000 := Aside0.mk (Kd.R_mono (Kd.R_told (Kd.R_told (Kd.R_old (rr_ HO_1033000) hb) (Kd.R_base ho0)) (Kd.R_base ho1)) (fun _ h_ => h_.1))
                replace HO_1033001 := Aside0.mk (Kd.R_mono (Kd.R_told (Kd.R_told (Kd.R_old (rr_ HO_1033001) hb) (Kd.R_base ho0)) (Kd.R_base ho1)) (fun _ h_ => h_.1))
                replace HO1035 := Aside0.mk (Kd.R_mono (Kd.R_told (Kd.R_told (Kd.R_old (rr_ HO1035) hb) (Kd.R_base ho0)) (Kd.R_base ho1)) (fun _ h_ => h_.1))
                replace BK1021 := bb_ BK1021 hb
                replace BK1022 := bb_ BK1022 hb
                replace BK1032 := bb_ BK1032 hb
                replace BK1042 := bb_ BK1042 hb
                replace HB := b1_ hb
                clear hb ho0 ho1
                refine hK.out _ _ ⟨cz0_ BK1021, cz1_ BK1021⟩ (fun hHeld => ?_)
                clear hK K
                refine no_ (some 21) ?_
                exact norm_ (by simp only [putAll, Act.put, List.setIfInBounds_toArray, List.set_cons_zero, List.set_cons_succ]) (hCont (.slice Ao27 t1033.length co27, v1037, v1040, gb1042) _ ⟨hHeld, (rw_ (Kd.R_mono HO1035.out (fun _ hk => ⟨hk.1.2, ⟨hk.2, ⟨hk.1.1.1.2, hk.1.1.2⟩⟩⟩))), (rw_ (Kd.R_mono HO1038.out (fun _ hk => ⟨hk.2, ⟨hk.1.1.1, ⟨hk.1.1.2, hk.1.2⟩⟩⟩))), (rw_ (Kd.R_mono HO1041.out (fun _ hk => ⟨hk.2, ⟨hk.1.1.1, ⟨hk.1.1.2, hk.1.2⟩⟩⟩))), (rw_ (Kd.R_mono HO_1033000.out (fun _ hk => ⟨hk.1.1.2, ⟨hk.1.2, ⟨hk.2, hk.1.1.1⟩⟩⟩))), (rw_ (Kd.R_mono HO_1033001.out (fun _ hk => ⟨hk.1.1.2, ⟨hk.1.2, ⟨hk.2, hk.1.1.1⟩⟩⟩))), (kk_ BK1021), (kk_ BK1022), (kk_ BK1032), (kk_ BK1042), GW1042.out, GE1042.out, NB1021_1042.out, NB1042_1021.out, NB1022_1042.out, NB1042_1022.out, NB1032_1042.out, NB1042_1032.out, hB_⟩)
            · skip
              refine box_step ?hg (N := 5) ?hd (cs := #[.slice none 0 0, .slice none 0 0]) (t := 33) ?hr ?_; (case hd => rfl); (case hg => rfl); (case hr => first | (go_simp; done) | (go_simp; rfl))
              intro gb1042 hg w25 hbox hb
              replace HO_1033000 := rb_ HO_1033000 hb
              replace HO_1033001 := rb_ HO_1033001 hb
              have BK1042 := Aside0.mk hbox
              have GW1042 := gw_ w hg
              have GE1042 := GW1042
              replace HB := b1_ hb
              have NB1021_1042 := gN_ BK1021 hg
              have NB1042_1021 := gP_ BK1021 hg
              replace BK1021 := bb_ BK1021 hb
              have NB1022_1042 := gN_ BK1022 hg
              have NB1042_1022 := gP_ BK1022 hg
              replace BK1022 := bb_ BK1022 hb
              have NB1032_1042 := gN_ BK1032 hg
              have NB1042_1032 := gP_ BK1032 hg
              replace BK1032 := bb_ BK1032 hb
              clear hb hbox hg
              refine hK.out _ _ ⟨cz0_ BK1021, cz1_ BK1021⟩ (fun hHeld => ?_)
              clear hK K
              refine no_ (some 5) ?_
              refine one_ (i := 3) (N := some 20) (bl_ 7 47) rfl rfl (by kernel_rfl) (by decide) (fun K hK => ?_)
              refine gO_ Try.func130 #[.agg #[.slice A0_0 l0_0.length c0_0, .slice A0_1 l0_1.length c0_1], .int .i64 x4_1] (by rfl) rfl rfl qa_ ?_
              with_reducible refine (spec_l03Names.calls k1 _ _ l0_0 _ _ l0_1 x4_1 t1033 _ (cb_ HR0_0) HC0_0.out (cb_ HR0_1) HC0_1.out A17.out).mono ?_
              rintro e w26 ⟨v1034, rfl, ho0, hb⟩
              refine ⟨_, rfl, ?_⟩
              have HO1035 := Aside0.mk (Kd.R_lower (Kd.R_new' (Kd.R_new' ho0 (Kd.R_lt (rr_ HO_1033000))) (Kd.R_lt (rr_ HO_1033001))) (below_size hB_))
              replace HO_1033000 := Aside0.mk (Kd.R_elder' (rr_ HO_1033000) (Kd.R_base ho0) hb)
              replace HO_1033001 := Aside0.mk (Kd.R_elder' (rr_ HO_1033001) (Kd.R_base ho0) hb)
              replace BK1021 := bb_ BK1021 hb
              replace BK1022 := bb_ BK1022 hb
              replace BK1032 := bb_ BK1032 hb
              replace BK1042 := bb_ BK1042 hb
              replace HB := b1_ hb
              clear hb ho0
              obtain ⟨Ao27, co27, eo27⟩ := Kd.R_slice HO1035.out
              (first | subst eo27 | (injection eo27 with f1_ f2_ f3_; have f4_ := f1_.symm; have f5_ := f3_.symm; clear f1_ f2_ f3_; subst f4_; subst f5_))
              refine hK.out _ _ ⟨cz0_ BK1021, cz1_ BK1021⟩ (fun hHeld => ?_)
              clear hK K
              refine no_ (some 20) ?_
              refine one_ (i := 4) (N := some 21) (bl_ 7 63) rfl rfl (by kernel_rfl) (by decide) (fun K hK => ?_)
              refine gO_ Try.func129 #[.agg #[.slice A0_0 l0_0.length c0_0, .slice A0_1 l0_1.length c0_1], .slice Ao27 t1033.length co27] (by rfl) rfl rfl qa_ ?_
              with_reducible refine (spec_l03Rename.calls k1 _ _ l0_0 _ _ l0_1 _ _ t1033 t1036 t1039 _ (cb_ HR0_0) HC0_0.out (cb_ HR0_1) HC0_1.out (cr_ HO1035) ((Kd.R_reads' HO1035.out).2.1) A18.out).mono ?_
              rintro e w28 ⟨v1037, v1040, rfl, ho0, ho1, hb⟩
              refine ⟨_, rfl, ?_⟩
              have HO1038 := Aside0.mk (Kd.R_lower (Kd.R_new' (Kd.R_new' (Kd.R_new' ho0 (Kd.R_lt (rr_ HO_1033000))) (Kd.R_lt (rr_ HO_1033001))) (Kd.R_lt (rr_ HO1035))) (below_size hB_))
              have HO1041 := Aside0.mk (Kd.R_lower (Kd.R_new' (Kd.R_new' (Kd.R_new' ho1 (Kd.R_lt (rr_ HO_1033000))) (Kd.R_lt (rr_ HO_1033001))) (Kd.R_lt (rr_ HO1035))) (below_size hB_))
              replace HO_1033000 := Aside0.mk (Kd.R_mono (Kd.R_told (Kd.R_told (Kd.R_old (rr_ HO_1033000) hb) (Kd.R_base ho0)) (Kd.R_base ho1)) (fun _ h_ => h_.1))
              replace HO_1033001 := Aside0.mk (Kd.R_mono (Kd.R_told (Kd.R_told (Kd.R_old (rr_ HO_1033001) hb) (Kd.R_base ho0)) (Kd.R_base ho1)) (fun _ h_ => h_.1))
              replace HO1035 := Aside0.mk (Kd.R_mono (Kd.R_told (Kd.R_told (Kd.R_old (rr_ HO1035) hb) (Kd.R_base ho0)) (Kd.R_base ho1)) (fun _ h_ => h_.1))
              replace BK1021 := bb_ BK1021 hb
              replace BK1022 := bb_ BK1022 hb
              replace BK1032 := bb_ BK1032 hb
              replace BK1042 := bb_ BK1042 hb
              replace HB := b1_ hb
              clear hb ho0 ho1
              refine hK.out _ _ ⟨cz0_ BK1021, cz1_ BK1021⟩ (fun hHeld => ?_)
              clear hK K
              refine no_ (some 21) ?_
              exact norm_ (by simp only [putAll, Act.put, List.setIfInBounds_toArray, List.set_cons_zero, List.set_cons_succ]) (hCont (.slice Ao27 t1033.length co27, v1037, v1040, gb1042) _ ⟨hHeld, (rw_ (Kd.R_mono HO1035.out (fun _ hk => ⟨hk.1.2, ⟨hk.2, ⟨hk.1.1.1.2, hk.1.1.2⟩⟩⟩))), (rw_ (Kd.R_mono HO1038.out (fun _ hk => ⟨hk.2, ⟨hk.1.1.1, ⟨hk.1.1.2, hk.1.2⟩⟩⟩))), (rw_ (Kd.R_mono HO1041.out (fun _ hk => ⟨hk.2, ⟨hk.1.1.1, ⟨hk.1.1.2, hk.1.2⟩⟩⟩))), (rw_ (Kd.R_mono HO_1033000.out (fun _ hk => ⟨hk.1.1.2, ⟨hk.1.2, ⟨hk.2, hk.1.1.1⟩⟩⟩))), (rw_ (Kd.R_mono HO_1033001.out (fun _ hk => ⟨hk.1.1.2, ⟨hk.1.2, ⟨hk.2, hk.1.1.1⟩⟩⟩))), (kk_ BK1021), (kk_ BK1022), (kk_ BK1032), (kk_ BK1042), GW1042.out, GE1042.out, NB1021_1042.out, NB1042_1021.out, NB1022_1042.out, NB1042_1022.out, NB1032_1042.out, NB1042_1032.out, hB_⟩)
          rintro ⟨v1034, v1037, v1040, gb1042⟩ w29 ⟨hS_, h0_, h1_, h2_, h3_, h4_, h5_, h6_, h7_, h8_, h9_, h10_, h11_, h12_, h13_, h14_, h15_, h16_, h17_⟩
          have n0_ : Aside0 (Kd.R (Kd.int .i64) 3 w29 w.heap.size (fun k_ => some k_ ≠ (v1037 : Value).ownBlock ∧ some k_ ≠ (v1040 : Value).ownBlock ∧ some k_ ≠ (u1033000 : Value).ownBlock ∧ some k_ ≠ (u1033001 : Value).ownBlock) v1034 t1033) := ⟨h0_⟩
          have n1_ : Aside0 (Kd.R (Kd.int .i64) 3 w29 w.heap.size (fun k_ => some k_ ≠ (v1034 : Value).ownBlock ∧ some k_ ≠ (v1040 : Value).ownBlock ∧ some k_ ≠ (u1033000 : Value).ownBlock ∧ some k_ ≠ (u1033001 : Value).ownBlock) v1037 t1036) := ⟨h1_⟩
          have n2_ : Aside0 (Kd.R (Kd.int .i64) 3 w29 w.heap.size (fun k_ => some k_ ≠ (v1034 : Value).ownBlock ∧ some k_ ≠ (v1037 : Value).ownBlock ∧ some k_ ≠ (u1033000 : Value).ownBlock ∧ some k_ ≠ (u1033001 : Value).ownBlock) v1040 t1039) := ⟨h2_⟩
          have n3_ : Aside0 (Kd.R (Kd.int .i64) 3 w29 w.heap.size (fun k_ => some k_ ≠ (v1034 : Value).ownBlock ∧ some k_ ≠ (v1037 : Value).ownBlock ∧ some k_ ≠ (v1040 : Value).ownBlock ∧ some k_ ≠ (u1033001 : Value).ownBlock) u1033000 x1033000_1) := ⟨h3_⟩
          have n4_ : Aside0 (Kd.R (Kd.int .i64) 3 w29 w.heap.size (fun k_ => some k_ ≠ (v1034 : Value).ownBlock ∧ some k_ ≠ (v1037 : Value).ownBlock ∧ some k_ ≠ (v1040 : Value).ownBlock ∧ some k_ ≠ (u1033000 : Value).ownBlock) u1033001 x1033001_1) := ⟨h4_⟩
          have n5_ : Aside0 (w29.heap[gb1021]? = some (.cells #[.slice A0_0 l0_0.length c0_0, .slice A0_1 l0_1.length c0_1] 33 (0, 0))) := ⟨h5_⟩
          have n6_ : Aside0 (w29.heap[gb1022]? = some (.cells #[.slice none 0 0, .slice none 0 0] 33 (0, 0))) := ⟨h6_⟩
          have n7_ : Aside0 (w29.heap[gb1032]? = some (.cells #[u1033000, u1033001] 33 (0, 0))) := ⟨h7_⟩
          have n8_ : Aside0 (w29.heap[gb1042]? = some (.cells #[.slice none 0 0, .slice none 0 0] 33 (0, 0))) := ⟨h8_⟩
          have n9_ : Aside0 (w.heap.size ≤ gb1042) := ⟨h9_⟩
          have n10_ : Aside0 (w.heap.size ≤ gb1042) := ⟨h10_⟩
          have n11_ : Aside0 (gb1021 ≠ gb1042) := ⟨h11_⟩
          have n12_ : Aside0 (gb1042 ≠ gb1021) := ⟨h12_⟩
          have n13_ : Aside0 (gb1022 ≠ gb1042) := ⟨h13_⟩
          have n14_ : Aside0 (gb1042 ≠ gb1022) := ⟨h14_⟩
          have n15_ : Aside0 (gb1032 ≠ gb1042) := ⟨h15_⟩
          have n16_ : Aside0 (gb1042 ≠ gb1032) := ⟨h16_⟩
          have n17_ : Aside0 (Below w.heap.size w w29) := ⟨h17_⟩
          clear HO_1033000
          clear HO_1033001
          clear BK1021
          clear BK1022
          clear BK1032
          clear HB
          clear h0_ h1_ h2_ h3_ h4_ h5_ h6_ h7_ h8_ h9_ h10_ h11_ h12_ h13_ h14_ h15_ h16_ h17_
          have HO1035 := n0_
          have HO1038 := n1_
          have HO1041 := n2_
          have HO_1033000 := n3_
          have HO_1033001 := n4_
          have BK1021 := n5_
          have BK1022 := n6_
          have BK1032 := n7_
          have BK1042 := n8_
          have GW1042 := n9_
          have GE1042 := n10_
          have NB1021_1042 := n11_
          have NB1042_1021 := n12_
          have NB1022_1042 := n13_
          have NB1042_1022 := n14_
          have NB1032_1042 := n15_
          have NB1042_1032 := n16_
          have HB := n17_
          clear n0_ n1_ n2_ n3_ n4_ n5_ n6_ n7_ n8_ n9_ n10_ n11_ n12_ n13_ n14_ n15_ n16_ n17_
          have hHeld : w29.cell? ⟨gb1021, 0, none⟩ = some (.slice A0_0 l0_0.length c0_0) ∧ w29.cell? ⟨gb1021, 1, none⟩ = some (.slice A0_1 l0_1.length c0_1) := hS_
          obtain ⟨Ao30, co30, eo30⟩ := Kd.R_slice HO1038.out
          (first | subst eo30 | (injection eo30 with f1_ f2_ f3_; have f4_ := f1_.symm; have f5_ := f3_.symm; clear f1_ f2_ f3_; subst f4_; subst f5_))
          obtain ⟨Ao32, co32, eo32⟩ := Kd.R_slice HO1041.out
          (first | subst eo32 | (injection eo32 with f1_ f2_ f3_; have f4_ := f1_.symm; have f5_ := f3_.symm; clear f1_ f2_ f3_; subst f4_; subst f5_))
          refine norm_ (a' := ?_) ?_ ?_
          rotate_left
          · simp only [putAll, Act.put, List.setIfInBounds_toArray, List.set_cons_zero, List.set_cons_succ]
            rfl
          refine one_ (i := 6) (N := none) (bl_ 7 127) rfl rfl (by kernel_rfl) (by decide) (fun K hK => ?_)
          have hs31 : w29.cell? ⟨gb1042, 0, none⟩ = some (.slice none 0 0) := cz0_ BK1042
          have hfs31 := blk_frozen BK1042.out 0
          have hns31_0 := NB1021_1042.out
          have hns31_1 := NB1022_1042.out
          have hns31_2 := NB1032_1042.out
          have hms31_0 := NB1042_1021.out
          have hms31_1 := NB1042_1022.out
          have hms31_2 := NB1042_1032.out
          have hs33 : w29.cell? ⟨gb1042, 1, none⟩ = some (.slice none 0 0) := cz1_ BK1042
          have hfs33 := blk_frozen BK1042.out 1
          have hns33_0 := NB1021_1042.out
          have hns33_1 := NB1022_1042.out
          have hns33_2 := NB1032_1042.out
          have hms33_0 := NB1042_1021.out
          have hms33_1 := NB1042_1022.out
          have hms33_2 := NB1042_1032.out
          refine skip_ (w1 := ?_) (by rfl) rfl ?_ ?_
          rotate_left
          · go_simp
            rfl
          refine hK.out _ _ ⟨((cell_far (p := ⟨gb1042, _, none⟩) NB1021_1042.out _).trans (((cell_far (p := ⟨gb1042, _, none⟩) NB1021_1042.out _).trans (hHeld.1)))), ((cell_far (p := ⟨gb1042, _, none⟩) NB1021_1042.out _).trans (((cell_far (p := ⟨gb1042, _, none⟩) NB1021_1042.out _).trans (hHeld.2))))⟩ (fun hHeld => ?_)
          clear hK K
          refine done_ (by kernel_rfl) ?_
          have hnb34 := NB1042_1021.out
          have hnc34 := NB1021_1042.out
          have hnb35 := NB1042_1022.out
          have hnc35 := NB1022_1042.out
          have hnb36 := NB1042_1032.out
          have hnc36 := NB1032_1042.out
          obtain ⟨hcz37_0, hcz37_1, hfz37_0, hfz37_1⟩ := c2_ BK1042
          have hnb38 := NB1032_1022.out
          have hnc38 := NB1022_1032.out
          obtain ⟨hcz39_0, hcz39_1, hfz39_0, hfz39_1⟩ := c2_ BK1032
          obtain ⟨Ao40, co40, eo40⟩ := Kd.R_slice HO_1033000.out
          subst eo40
          obtain ⟨Ao41, co41, eo41⟩ := Kd.R_slice HO_1033001.out
          subst eo41
          try go_wp2_with (first | ((with_reducible refine gate_callee (f := 128) rfl ?_); refine gL_ (some 24) Try.func128 #[.agg #[.slice Ao30 t1036.length co30, .slice Ao32 t1039.length co32], .agg #[.slice Ao40 x1033000_1.length co40, .slice Ao41 x1033001_1.length co41]] rfl qa_ ?_; (with_reducible refine (spec_l03Before.calls k1 _ _ t1036 _ _ t1039 _ _ x1033000_1 _ _ x1033001_1 true _ ?side1 ?side2 ?side3 ?side4 ?side5 ?side6 ?side7 ?side8 A19.out).mono ?_); (case side1 => refine (Kd.R_reads' (e := 3) (base := w.heap.size) (ok := fun k_ => (some k_ ≠ (v1034 : Value).ownBlock ∧ (some k_ ≠ (.slice Ao32 t1039.length co32 : Value).ownBlock ∧ (some k_ ≠ (.slice Ao40 x1033000_1.length co40 : Value).ownBlock ∧ some k_ ≠ (.slice Ao41 x1033001_1.length co41 : Value).ownBlock)))) (n := t1036.length) (c := co30) ?_).2.2; exact (rw_ (fa_ HO1038 BK1042))); (case side2 => exact (Kd.R_reads' HO1038.out).2.1); (case side3 => refine (Kd.R_reads' (e := 3) (base := w.heap.size) (ok := fun k_ => (some k_ ≠ (v1034 : Value).ownBlock ∧ (some k_ ≠ (.slice Ao30 t1036.length co30 : Value).ownBlock ∧ (some k_ ≠ (.slice Ao40 x1033000_1.length co40 : Value).ownBlock ∧ some k_ ≠ (.slice Ao41 x1033001_1.length co41 : Value).ownBlock)))) (n := t1039.length) (c := co32) ?_).2.2; exact (rw_ (fa_ HO1041 BK1042))); (case side4 => exact (Kd.R_reads' HO1041.out).2.1); (case side5 => refine (Kd.R_reads' (e := 3) (base := w.heap.size) (ok := fun k_ => (some k_ ≠ (v1034 : Value).ownBlock ∧ (some k_ ≠ (.slice Ao30 t1036.length co30 : Value).ownBlock ∧ (some k_ ≠ (.slice Ao32 t1039.length co32 : Value).ownBlock ∧ some k_ ≠ (.slice Ao41 x1033001_1.length co41 : Value).ownBlock)))) (n := x1033000_1.length) (c := co40) ?_).2.2; exact (rw_ (fa_ HO_1033000 BK1042))); (case side6 => exact (Kd.R_reads' HO_1033000.out).2.1); (case side7 => refine (Kd.R_reads' (e := 3) (base := w.heap.size) (ok := fun k_ => (some k_ ≠ (v1034 : Value).ownBlock ∧ (some k_ ≠ (.slice Ao30 t1036.length co30 : Value).ownBlock ∧ (some k_ ≠ (.slice Ao32 t1039.length co32 : Value).ownBlock ∧ some k_ ≠ (.slice Ao40 x1033000_1.length co40 : Value).ownBlock)))) (n := x1033001_1.length) (c := co41) ?_).2.2; exact (rw_ (fa_ HO_1033001 BK1042))); (case side8 => exact (Kd.R_reads' HO_1033001.out).2.1); rintro e w42 ⟨rfl, hb⟩; refine ⟨_, rfl, ?_⟩; replace HO_1033000 := Aside0.mk (Kd.R_below (rw_ (fa_ HO_1033000 BK1042)) hb); replace HO_1033001 := Aside0.mk (Kd.R_below (rw_ (fa_ HO_1033001 BK1042)) hb); replace HO1035 := Aside0.mk (Kd.R_below (rw_ (fa_ HO1035 BK1042)) hb); replace HO1038 := Aside0.mk (Kd.R_below (rw_ (fa_ HO1038 BK1042)) hb); replace HO1041 := Aside0.mk (Kd.R_below (rw_ (fa_ HO1041 BK1042)) hb); replace BK1021 := Aside0.mk (blk_below (g := gb1021) (o := .cells #[.slice A0_0 l0_0.length c0_0, .slice A0_1 l0_1.length c0_1] 33 (0, 0)) (by (with_reducible repeat (first | refine blk_drewN ?_ _ | refine blk_drew ?_ | refine blk_alloc ?_ _)); refine blk_far ?_ NB1021_1042.out _; (with_reducible repeat (first | refine blk_drewN ?_ _ | refine blk_drew ?_ | refine blk_alloc ?_ _)); refine blk_far ?_ NB1021_1042.out _; (with_reducible repeat (first | refine blk_drewN ?_ _ | refine blk_drew ?_ | refine blk_alloc ?_ _)); exact BK1021.out) hb); replace BK1022 := Aside0.mk (blk_below (g := gb1022) (o := .cells #[.slice none 0 0, .slice none 0 0] 33 (0, 0)) (by (with_reducible repeat (first | refine blk_drewN ?_ _ | refine blk_drew ?_ | refine blk_alloc ?_ _)); refine blk_far ?_ NB1022_1042.out _; (with_reducible repeat (first | refine blk_drewN ?_ _ | refine blk_drew ?_ | refine blk_alloc ?_ _)); refine blk_far ?_ NB1022_1042.out _; (with_reducible repeat (first | refine blk_drewN ?_ _ | refine blk_drew ?_ | refine blk_alloc ?_ _)); exact BK1022.out) hb); replace BK1032 := Aside0.mk (blk_below (g := gb1032) (o := .cells #[.slice Ao40 x1033000_1.length co40, .slice Ao41 x1033001_1.length co41] 33 (0, 0)) (by (with_reducible repeat (first | refine blk_drewN ?_ _ | refine blk_drew ?_ | refine blk_alloc ?_ _)); refine blk_far ?_ NB1032_1042.out _; (with_reducible repeat (first | refine blk_drewN ?_ _ | refine blk_drew ?_ | refine blk_alloc ?_ _)); refine blk_far ?_ NB1032_1042.out _; (with_reducible repeat (first | refine blk_drewN ?_ _ | refine blk_drew ?_ | refine blk_alloc ?_ _)); exact BK1032.out) hb); replace BK1042 := Aside0.mk (blk_below (g := gb1042) (o := .cells #[.slice Ao30 t1036.length co30, .slice Ao32 t1039.length co32] 33 (0, 0)) qp_ hb); replace HB := b1_ hb; clear hb; obtain ⟨hcz43_0, hcz43_1, hfz43_0, hfz43_1⟩ := c2_ BK1042; obtain ⟨hcz44_0, hcz44_1, hfz44_0, hfz44_1⟩ := c2_ BK1032))
          go_roundg k1
          case measure => have := HK1.out; omega
          case rel => exact ⟨(wrap64 (x4_1 + 1)), (t1036), (t1039), (.slice Ao30 t1036.length co30), (.slice Ao32 t1039.length co32), qc_, H', ⟨by have := HK1.out; omega⟩, ⟨(rw_ (Kd.R_mono (fa_ HO1038 BK1032) (fun _ hk => hk.2.1)))⟩, ⟨(rw_ (Kd.R_mono (fa_ HO1041 BK1032) (fun _ hk => hk.2.1)))⟩, ⟨by (with_reducible repeat (first | refine blk_drewN ?_ _ | refine blk_drew ?_ | refine blk_alloc ?_ _)); refine blk_far ?_ NB1021_1032.out _; (with_reducible repeat (first | refine blk_drewN ?_ _ | refine blk_drew ?_ | refine blk_alloc ?_ _)); refine blk_far ?_ NB1021_1032.out _; (with_reducible repeat (first | refine blk_drewN ?_ _ | refine blk_drew ?_ | refine blk_alloc ?_ _)); exact BK1021.out⟩, ⟨by (with_reducible repeat (first | refine blk_drewN ?_ _ | refine blk_drew ?_ | refine blk_alloc ?_ _)); refine blk_far ?_ NB1022_1032.out _; (with_reducible repeat (first | refine blk_drewN ?_ _ | refine blk_drew ?_ | refine blk_alloc ?_ _)); refine blk_far ?_ NB1022_1032.out _; (with_reducible repeat (first | refine blk_drewN ?_ _ | refine blk_drew ?_ | refine blk_alloc ?_ _)); exact BK1022.out⟩, ⟨qp_⟩, ⟨hB_⟩⟩
        · replace c20 := Bool.eq_false_iff.mpr c20
          subst c20
          have H1 : (spec_l03Canon.l0 k1 (wrap64 (x4_1 + 1)) l0_0 l0_1 x1033000_1 x1033001_1) = some (r1, r2) := by rw [if_neg (show ¬ (false = true) by decide)] at H; exact H
          clear H
          have H := H1
          clear H1
          have H' := Aside0.mk H
          clear H
          have hnb45 := NB1021_1022.out
          have hnc45 := NB1022_1021.out
          have hnb46 := NB1021_1032.out
          have hnc46 := NB1032_1021.out
          obtain ⟨hcz47_0, hcz47_1, hfz47_0, hfz47_1⟩ := c2_ BK1021
          try go_wp2
          replace HO_1033000 := Aside0.mk (Kd.R_drew HO_1033000.out)
          replace HO_1033001 := Aside0.mk (Kd.R_drew HO_1033001.out)
          replace BK1021 := Aside0.mk (blk_drew BK1021.out)
          replace BK1022 := Aside0.mk (blk_drew BK1022.out)
          replace BK1032 := Aside0.mk (blk_drew BK1032.out)
          replace HB := Aside0.mk (below_drew1 HB.out)
          refine start_ (n := 7) (S := fun w' => w'.cell? ⟨gb1021, 0, none⟩ = some (.slice A0_0 l0_0.length c0_0) ∧ w'.cell? ⟨gb1021, 1, none⟩ = some (.slice A0_1 l0_1.length c0_1)) (ds := []) (bl_ 7 0) (by kernel_rfl) rfl (by kernel_rfl) ⟨cz0_ BK1021, cz1_ BK1021⟩ (fun hHeld => ?_)
          generalize wr.drew = w48 at HO_1033000 HO_1033001 BK1021 BK1022 BK1032 HB hHeld ⊢
          refine pure_ (i := 2) (N := some 19) (v := ?_) (a' := ?_) (bl_ 7 4) rfl rfl (by kernel_rfl) (fun _ _ _ h => h) (Or.inl ⟨by rfl, ?_⟩) ?_ ?_
          rotate_left
          · intro w'
            go_simp
            with_reducible rfl
          rotate_left
          · simp only [Act.put, List.setIfInBounds_toArray, List.set_cons_zero, List.set_cons_succ, i64_w, i32_w]
            rfl
          refine take_ (i := 0) (N := some 17) (v := ?_) (a' := ?_) (bl_ 7 5) rfl rfl (by kernel_rfl) (fun _ _ _ h => h) (Or.inl ⟨by rfl, ?_⟩) hHeld ?_ ?_
          rotate_left
          · rintro w' ⟨s0, s1⟩
            go_simp
            with_reducible rfl
          rotate_left
          · simp only [Act.put, List.setIfInBounds_toArray, List.set_cons_zero, List.set_cons_succ, i64_w, i32_w]
            rfl
          refine take_ (i := 1) (N := some 18) (v := ?_) (a' := ?_) (bl_ 7 7) rfl rfl (by kernel_rfl) (fun _ _ _ h => h) (Or.inl ⟨by rfl, ?_⟩) hHeld ?_ ?_
          rotate_left
          · rintro w' ⟨s0, s1⟩
            go_simp
            with_reducible rfl
          rotate_left
          · simp only [Act.put, List.setIfInBounds_toArray, List.set_cons_zero, List.set_cons_succ, i64_w, i32_w]
            rfl
          refine join_ (σ := Value × Value × Value × Nat) 1 (bl_ 7 63) (fun s_ => [(20, s_.1), (21, .agg #[s_.2.1, s_.2.2.1]), (5, .pointer (some ⟨s_.2.2.2, 0, none⟩))]) (fun s_ w' => (w'.cell? ⟨gb1021, 0, none⟩ = some (.slice A0_0 l0_0.length c0_0) ∧ w'.cell? ⟨gb1021, 1, none⟩ = some (.slice A0_1 l0_1.length c0_1)) ∧ (Kd.R (Kd.int .i64) 3 w' w.heap.size (fun k_ => some k_ ≠ (s_.2.1 : Value).ownBlock ∧ some k_ ≠ (s_.2.2.1 : Value).ownBlock ∧ some k_ ≠ (u1033000 : Value).ownBlock ∧ some k_ ≠ (u1033001 : Value).ownBlock) s_.1 t1033) ∧ (Kd.R (Kd.int .i64) 3 w' w.heap.size (fun k_ => some k_ ≠ (s_.1 : Value).ownBlock ∧ some k_ ≠ (s_.2.2.1 : Value).ownBlock ∧ some k_ ≠ (u1033000 : Value).ownBlock ∧ some k_ ≠ (u1033001 : Value).ownBlock) s_.2.1 t1036) ∧ (Kd.R (Kd.int .i64) 3 w' w.heap.size (fun k_ => some k_ ≠ (s_.1 : Value).ownBlock ∧ some k_ ≠ (s_.2.1 : Value).ownBlock ∧ some k_ ≠ (u1033000 : Value).ownBlock ∧ some k_ ≠ (u1033001 : Value).ownBlock) s_.2.2.1 t1039) ∧ (Kd.R (Kd.int .i64) 3 w' w.heap.size (fun k_ => some k_ ≠ (s_.1 : Value).ownBlock ∧ some k_ ≠ (s_.2.1 : Value).ownBlock ∧ some k_ ≠ (s_.2.2.1 : Value).ownBlock ∧ some k_ ≠ (u1033001 : Value).ownBlock) u1033000 x1033000_1) ∧ (Kd.R (Kd.int .i64) 3 w' w.heap.size (fun k_ => some k_ ≠ (s_.1 : Value).ownBlock ∧ some k_ ≠ (s_.2.1 : Value).ownBlock ∧ some k_ ≠ (s_.2.2.1 : Value).ownBlock ∧ some k_ ≠ (u1033000 : Value).ownBlock) u1033001 x1033001_1) ∧ (w'.heap[gb1021]? = some (.cells #[.slice A0_0 l0_0.length c0_0, .slice A0_1 l0_1.length c0_1] 33 (0, 0))) ∧ (w'.heap[gb1022]? = some (.cells #[.slice none 0 0, .slice none 0 0] 33 (0, 0))) ∧ (w'.heap[gb1032]? = some (.cells #[u1033000, u1033001] 33 (0, 0))) ∧ (w'.heap[s_.2.2.2]? = some (.cells #[.slice none 0 0, .slice none 0 0] 33 (0, 0))) ∧ (w.heap.size ≤ s_.2.2.2) ∧ (w.heap.size ≤ s_.2.2.2) ∧ (gb1021 ≠ s_.2.2.2) ∧ (s_.2.2.2 ≠ gb1021) ∧ (gb1022 ≠ s_.2.2.2) ∧ (s_.2.2.2 ≠ gb1022) ∧ (gb1032 ≠ s_.2.2.2) ∧ (s_.2.2.2 ≠ gb1032) ∧ (Below w.heap.size w w')) ?_ ?_
          rotate_left
          · intro hCont
            refine two_ (i := 3) (j := 5) (Ni := some 20) (Nj := some 5) (bl_ 7 15) (bl_ 7 39) rfl rfl rfl rfl (by kernel_rfl) (by decide) (by decide) (fun K hK => ?_) (fun K hK => ?_)
            · skip
              refine gO_ Try.func130 #[.agg #[.slice A0_0 l0_0.length c0_0, .slice A0_1 l0_1.length c0_1], .int .i64 x4_1] (by rfl) rfl rfl qa_ ?_
              with_reducible refine (spec_l03Names.calls k1 _ _ l0_0 _ _ l0_1 x4_1 t1033 _ (cb_ HR0_0) HC0_0.out (cb_ HR0_1) HC0_1.out A17.out).mono ?_
              rintro e w49 ⟨v1034, rfl, ho0, hb⟩
              refine ⟨_, rfl, ?_⟩
              have HO1035 := Aside0.mk (Kd.R_lower (Kd.R_new' (Kd.R_new' ho0 (Kd.R_lt (rr_ HO_1033000))) (Kd.R_lt (rr_ HO_1033001))) (below_size hB_))
              replace HO_1033000 := Aside0.mk (Kd.R_elder' (rr_ HO_1033000) (Kd.R_base ho0) hb)
              replace HO_1033001 := Aside0.mk (Kd.R_elder' (rr_ HO_1033001) (Kd.R_base ho0) hb)
              replace BK1021 := bb_ BK1021 hb
              replace BK1022 := bb_ BK1022 hb
              replace BK1032 := bb_ BK1032 hb
              replace HB := b1_ hb
              clear hb ho0
              obtain ⟨Ao50, co50, eo50⟩ := Kd.R_slice HO1035.out
              (first | subst eo50 | (injection eo50 with f1_ f2_ f3_; have f4_ := f1_.symm; have f5_ := f3_.symm; clear f1_ f2_ f3_; subst f4_; subst f5_))
              refine hK.out _ _ ⟨cz0_ BK1021, cz1_ BK1021⟩ (fun hHeld => ?_)
              clear hK K
              refine no_ (some 20) ?_
              refine two_ (i := 4) (j := 5) (Ni := some 21) (Nj := some 5) (bl_ 7 31) (bl_ 7 47) rfl rfl rfl rfl (by kernel_rfl) (by decide) (by decide) (fun K hK => ?_) (fun K hK => ?_)
              · skip
                refine gO_ Try.func129 #[.agg #[.slice A0_0 l0_0.length c0_0, .slice A0_1 l0_1.length c0_1], .slice Ao50 t1033.length co50] (by rfl) rfl rfl qa_ ?_
                with_reducible refine (spec_l03Rename.calls k1 _ _ l0_0 _ _ l0_1 _ _ t1033 t1036 t1039 _ (cb_ HR0_0) HC0_0.out (cb_ HR0_1) HC0_1.out (cr_ HO1035) ((Kd.R_reads' HO1035.out).2.1) A18.out).mono ?_
                rintro e w51 ⟨v1037, v1040, rfl, ho0, ho1, hb⟩
                refine ⟨_, rfl, ?_⟩
                have HO1038 := Aside0.mk (Kd.R_lower (Kd.R_new' (Kd.R_new' (Kd.R_new' ho0 (Kd.R_lt (rr_ HO_1033000))) (Kd.R_lt (rr_ HO_1033001))) (Kd.R_lt (rr_ HO1035))) (below_size hB_))
                have HO1041 := Aside0.mk (Kd.R_lower (Kd.R_new' (Kd.R_new' (Kd.R_new' ho1 (Kd.R_lt (rr_ HO_1033000))) (Kd.R_lt (rr_ HO_1033001))) (Kd.R_lt (rr_ HO1035))) (below_size hB_))
                replace HO_1033000 := Aside0.mk (Kd.R_mono (Kd.R_told (Kd.R_told (Kd.R_old (rr_ HO_1033000) hb) (Kd.R_base ho0)) (Kd.R_base ho1)) (fun _ h_ => h_.1))
                replace HO_1033001 := Aside0.mk (Kd.R_mono (Kd.R_told (Kd.R_told (Kd.R_old (rr_ HO_1033001) hb) (Kd.R_base ho0)) (Kd.R_base ho1)) (fun _ h_ => h_.1))
                replace HO1035 := Aside0.mk (Kd.R_mono (Kd.R_told (Kd.R_told (Kd.R_old (rr_ HO1035) hb) (Kd.R_base ho0)) (Kd.R_base ho1)) (fun _ h_ => h_.1))
                replace BK1021 := bb_ BK1021 hb
                replace BK1022 := bb_ BK1022 hb
                replace BK1032 := bb_ BK1032 hb
                replace HB := b1_ hb
                clear hb ho0 ho1
                refine hK.out _ _ ⟨cz0_ BK1021, cz1_ BK1021⟩ (fun hHeld => ?_)
                clear hK K
                refine no_ (some 21) ?_
                refine one_ (i := 5) (N := some 5) (bl_ 7 63) rfl rfl (by kernel_rfl) (by decide) (fun K hK => ?_)
                refine box_step ?hg (N := 5) ?hd (cs := #[.slice none 0 0, .slice none 0 0]) (t := 33) ?hr ?_; (case hd => rfl); (case hg => rfl); (case hr => first | (go_simp; done) | (go_simp; rfl))
                intro gb1042 hg w52 hbox hb
                replace HO_1033000 := rb_ HO_1033000 hb
                replace HO_1033001 := rb_ HO_1033001 hb
                replace HO1035 := rb_ HO1035 hb
                replace HO1038 := rb_ HO1038 hb
                replace HO1041 := rb_ HO1041 hb
                have BK1042 := Aside0.mk hbox
                have GW1042 := gw_ w hg
                have GE1042 := GW1042
                replace HB := b1_ hb
                have NB1021_1042 := gN_ BK1021 hg
                have NB1042_1021 := gP_ BK1021 hg
                replace BK1021 := bb_ BK1021 hb
                have NB1022_1042 := gN_ BK1022 hg
                have NB1042_1022 := gP_ BK1022 hg
                replace BK1022 := bb_ BK1022 hb
                have NB1032_1042 := gN_ BK1032 hg
                have NB1042_1032 := gP_ BK1032 hg
                replace BK1032 := bb_ BK1032 hb
                clear hb hbox hg
                refine hK.out _ _ ⟨cz0_ BK1021, cz1_ BK1021⟩ (fun hHeld => ?_)
                clear hK K
                refine no_ (some 5) ?_
                exact norm_ (by simp only [putAll, Act.put, List.setIfInBounds_toArray, List.set_cons_zero, List.set_cons_succ]) (hCont (.slice Ao50 t1033.length co50, v1037, v1040, gb1042) _ ⟨hHeld, (rw_ (Kd.R_mono HO1035.out (fun _ hk => ⟨hk.1.2, ⟨hk.2, ⟨hk.1.1.1.2, hk.1.1.2⟩⟩⟩))), (rw_ (Kd.R_mono HO1038.out (fun _ hk => ⟨hk.2, ⟨hk.1.1.1, ⟨hk.1.1.2, hk.1.2⟩⟩⟩))), (rw_ (Kd.R_mono HO1041.out (fun _ hk => ⟨hk.2, ⟨hk.1.1.1, ⟨hk.1.1.2, hk.1.2⟩⟩⟩))), (rw_ (Kd.R_mono HO_1033000.out (fun _ hk => ⟨hk.1.1.2, ⟨hk.1.2, ⟨hk.2, hk.1.1.1⟩⟩⟩))), (rw_ (Kd.R_mono HO_1033001.out (fun _ hk => ⟨hk.1.1.2, ⟨hk.1.2, ⟨hk.2, hk.1.1.1⟩⟩⟩))), (kk_ BK1021), (kk_ BK1022), (kk_ BK1032), (kk_ BK1042), GW1042.out, GE1042.out, NB1021_1042.out, NB1042_1021.out, NB1022_1042.out, NB1042_1022.out, NB1032_1042.out, NB1042_1032.out, hB_⟩)
              · skip
                refine box_step ?hg (N := 5) ?hd (cs := #[.slice none 0 0, .slice none 0 0]) (t := 33) ?hr ?_; (case hd => rfl); (case hg => rfl); (case hr => first | (go_simp; done) | (go_simp; rfl))
                intro gb1042 hg w50 hbox hb
                replace HO_1033000 := rb_ HO_1033000 hb
                replace HO_1033001 := rb_ HO_1033001 hb
                replace HO1035 := rb_ HO1035 hb
                have BK1042 := Aside0.mk hbox
                have GW1042 := gw_ w hg
                have GE1042 := GW1042
                replace HB := b1_ hb
                have NB1021_1042 := gN_ BK1021 hg
                have NB1042_1021 := gP_ BK1021 hg
                replace BK1021 := bb_ BK1021 hb
                have NB1022_1042 := gN_ BK1022 hg
                have NB1042_1022 := gP_ BK1022 hg
                replace BK1022 := bb_ BK1022 hb
                have NB1032_1042 := gN_ BK1032 hg
                have NB1042_1032 := gP_ BK1032 hg
                replace BK1032 := bb_ BK1032 hb
                clear hb hbox hg
                obtain ⟨Ao51, co51, eo51⟩ := Kd.R_slice HO1035.out
                (first | subst eo51 | (injection eo51 with f1_ f2_ f3_; have f4_ := f1_.symm; have f5_ := f3_.symm; clear f1_ f2_ f3_; subst f4_; subst f5_))
                refine hK.out _ _ ⟨cz0_ BK1021, cz1_ BK1021⟩ (fun hHeld => ?_)
                clear hK K
                refine no_ (some 5) ?_
                refine one_ (i := 4) (N := some 21) (bl_ 7 63) rfl rfl (by kernel_rfl) (by decide) (fun K hK => ?_)
                refine gO_ Try.func129 #[.agg #[.slice A0_0 l0_0.length c0_0, .slice A0_1 l0_1.length c0_1], .slice Ao51 t1033.length co51] (by rfl) rfl rfl qa_ ?_
                with_reducible refine (spec_l03Rename.calls k1 _ _ l0_0 _ _ l0_1 _ _ t1033 t1036 t1039 _ (cb_ HR0_0) HC0_0.out (cb_ HR0_1) HC0_1.out (cr_ HO1035) ((Kd.R_reads' HO1035.out).2.1) A18.out).mono ?_
                rintro e w52 ⟨v1037, v1040, rfl, ho0, ho1, hb⟩
                refine ⟨_, rfl, ?_⟩
                have HO1038 := Aside0.mk (Kd.R_lower (Kd.R_new' (Kd.R_new' (Kd.R_new' ho0 (Kd.R_lt (rr_ HO_1033000))) (Kd.R_lt (rr_ HO_1033001))) (Kd.R_lt (rr_ HO1035))) (below_size hB_))
                have HO1041 := Aside0.mk (Kd.R_lower (Kd.R_new' (Kd.R_new' (Kd.R_new' ho1 (Kd.R_lt (rr_ HO_1033000))) (Kd.R_lt (rr_ HO_1033001))) (Kd.R_lt (rr_ HO1035))) (below_size hB_))
                replace HO_1033000 := Aside0.mk (Kd.R_mono (Kd.R_told (Kd.R_told (Kd.R_old (rr_ HO_1033000) hb) (Kd.R_base ho0)) (Kd.R_base ho1)) (fun _ h_ => h_.1))
                replace HO_1033001 := Aside0.mk (Kd.R_mono (Kd.R_told (Kd.R_told (Kd.R_old (rr_ HO_1033001) hb) (Kd.R_base ho0)) (Kd.R_base ho1)) (fun _ h_ => h_.1))
                replace HO1035 := Aside0.mk (Kd.R_mono (Kd.R_told (Kd.R_told (Kd.R_old (rr_ HO1035) hb) (Kd.R_base ho0)) (Kd.R_base ho1)) (fun _ h_ => h_.1))
                replace BK1021 := bb_ BK1021 hb
                replace BK1022 := bb_ BK1022 hb
                replace BK1032 := bb_ BK1032 hb
                replace BK1042 := bb_ BK1042 hb
                replace HB := b1_ hb
                clear hb ho0 ho1
                refine hK.out _ _ ⟨cz0_ BK1021, cz1_ BK1021⟩ (fun hHeld => ?_)
                clear hK K
                refine no_ (some 21) ?_
                exact norm_ (by simp only [putAll, Act.put, List.setIfInBounds_toArray, List.set_cons_zero, List.set_cons_succ]) (hCont (.slice Ao51 t1033.length co51, v1037, v1040, gb1042) _ ⟨hHeld, (rw_ (Kd.R_mono HO1035.out (fun _ hk => ⟨hk.1.2, ⟨hk.2, ⟨hk.1.1.1.2, hk.1.1.2⟩⟩⟩))), (rw_ (Kd.R_mono HO1038.out (fun _ hk => ⟨hk.2, ⟨hk.1.1.1, ⟨hk.1.1.2, hk.1.2⟩⟩⟩))), (rw_ (Kd.R_mono HO1041.out (fun _ hk => ⟨hk.2, ⟨hk.1.1.1, ⟨hk.1.1.2, hk.1.2⟩⟩⟩))), (rw_ (Kd.R_mono HO_1033000.out (fun _ hk => ⟨hk.1.1.2, ⟨hk.1.2, ⟨hk.2, hk.1.1.1⟩⟩⟩))), (rw_ (Kd.R_mono HO_1033001.out (fun _ hk => ⟨hk.1.1.2, ⟨hk.1.2, ⟨hk.2, hk.1.1.1⟩⟩⟩))), (kk_ BK1021), (kk_ BK1022), (kk_ BK1032), (kk_ BK1042), GW1042.out, GE1042.out, NB1021_1042.out, NB1042_1021.out, NB1022_1042.out, NB1042_1022.out, NB1032_1042.out, NB1042_1032.out, hB_⟩)
            · skip
              refine box_step ?hg (N := 5) ?hd (cs := #[.slice none 0 0, .slice none 0 0]) (t := 33) ?hr ?_; (case hd => rfl); (case hg => rfl); (case hr => first | (go_simp; done) | (go_simp; rfl))
              intro gb1042 hg w49 hbox hb
              replace HO_1033000 := rb_ HO_1033000 hb
              replace HO_1033001 := rb_ HO_1033001 hb
              have BK1042 := Aside0.mk hbox
              have GW1042 := gw_ w hg
              have GE1042 := GW1042
              replace HB := b1_ hb
              have NB1021_1042 := gN_ BK1021 hg
              have NB1042_1021 := gP_ BK1021 hg
              replace BK1021 := bb_ BK1021 hb
              have NB1022_1042 := gN_ BK1022 hg
              have NB1042_1022 := gP_ BK1022 hg
              replace BK1022 := bb_ BK1022 hb
              have NB1032_1042 := gN_ BK1032 hg
              have NB1042_1032 := gP_ BK1032 hg
              replace BK1032 := bb_ BK1032 hb
              clear hb hbox hg
              refine hK.out _ _ ⟨cz0_ BK1021, cz1_ BK1021⟩ (fun hHeld => ?_)
              clear hK K
              refine no_ (some 5) ?_
              refine one_ (i := 3) (N := some 20) (bl_ 7 47) rfl rfl (by kernel_rfl) (by decide) (fun K hK => ?_)
              refine gO_ Try.func130 #[.agg #[.slice A0_0 l0_0.length c0_0, .slice A0_1 l0_1.length c0_1], .int .i64 x4_1] (by rfl) rfl rfl qa_ ?_
              with_reducible refine (spec_l03Names.calls k1 _ _ l0_0 _ _ l0_1 x4_1 t1033 _ (cb_ HR0_0) HC0_0.out (cb_ HR0_1) HC0_1.out A17.out).mono ?_
              rintro e w50 ⟨v1034, rfl, ho0, hb⟩
              refine ⟨_, rfl, ?_⟩
              have HO1035 := Aside0.mk (Kd.R_lower (Kd.R_new' (Kd.R_new' ho0 (Kd.R_lt (rr_ HO_1033000))) (Kd.R_lt (rr_ HO_1033001))) (below_size hB_))
              replace HO_1033000 := Aside0.mk (Kd.R_elder' (rr_ HO_1033000) (Kd.R_base ho0) hb)
              replace HO_1033001 := Aside0.mk (Kd.R_elder' (rr_ HO_1033001) (Kd.R_base ho0) hb)
              replace BK1021 := bb_ BK1021 hb
              replace BK1022 := bb_ BK1022 hb
              replace BK1032 := bb_ BK1032 hb
              replace BK1042 := bb_ BK1042 hb
              replace HB := b1_ hb
              clear hb ho0
              obtain ⟨Ao51, co51, eo51⟩ := Kd.R_slice HO1035.out
              (first | subst eo51 | (injection eo51 with f1_ f2_ f3_; have f4_ := f1_.symm; have f5_ := f3_.symm; clear f1_ f2_ f3_; subst f4_; subst f5_))
              refine hK.out _ _ ⟨cz0_ BK1021, cz1_ BK1021⟩ (fun hHeld => ?_)
              clear hK K
              refine no_ (some 20) ?_
              refine one_ (i := 4) (N := some 21) (bl_ 7 63) rfl rfl (by kernel_rfl) (by decide) (fun K hK => ?_)
              refine gO_ Try.func129 #[.agg #[.slice A0_0 l0_0.length c0_0, .slice A0_1 l0_1.length c0_1], .slice Ao51 t1033.length co51] (by rfl) rfl rfl qa_ ?_
              with_reducible refine (spec_l03Rename.calls k1 _ _ l0_0 _ _ l0_1 _ _ t1033 t1036 t1039 _ (cb_ HR0_0) HC0_0.out (cb_ HR0_1) HC0_1.out (cr_ HO1035) ((Kd.R_reads' HO1035.out).2.1) A18.out).mono ?_
              rintro e w52 ⟨v1037, v1040, rfl, ho0, ho1, hb⟩
              refine ⟨_, rfl, ?_⟩
              have HO1038 := Aside0.mk (Kd.R_lower (Kd.R_new' (Kd.R_new' (Kd.R_new' ho0 (Kd.R_lt (rr_ HO_1033000))) (Kd.R_lt (rr_ HO_1033001))) (Kd.R_lt (rr_ HO1035))) (below_size hB_))
              have HO1041 := Aside0.mk (Kd.R_lower (Kd.R_new' (Kd.R_new' (Kd.R_new' ho1 (Kd.R_lt (rr_ HO_1033000))) (Kd.R_lt (rr_ HO_1033001))) (Kd.R_lt (rr_ HO1035))) (below_size hB_))
              replace HO_1033000 := Aside0.mk (Kd.R_mono (Kd.R_told (Kd.R_told (Kd.R_old (rr_ HO_1033000) hb) (Kd.R_base ho0)) (Kd.R_base ho1)) (fun _ h_ => h_.1))
              replace HO_1033001 := Aside0.mk (Kd.R_mono (Kd.R_told (Kd.R_told (Kd.R_old (rr_ HO_1033001) hb) (Kd.R_base ho0)) (Kd.R_base ho1)) (fun _ h_ => h_.1))
              replace HO1035 := Aside0.mk (Kd.R_mono (Kd.R_told (Kd.R_told (Kd.R_old (rr_ HO1035) hb) (Kd.R_base ho0)) (Kd.R_base ho1)) (fun _ h_ => h_.1))
              replace BK1021 := bb_ BK1021 hb
              replace BK1022 := bb_ BK1022 hb
              replace BK1032 := bb_ BK1032 hb
              replace BK1042 := bb_ BK1042 hb
              replace HB := b1_ hb
              clear hb ho0 ho1
              refine hK.out _ _ ⟨cz0_ BK1021, cz1_ BK1021⟩ (fun hHeld => ?_)
              clear hK K
              refine no_ (some 21) ?_
              exact norm_ (by simp only [putAll, Act.put, List.setIfInBounds_toArray, List.set_cons_zero, List.set_cons_succ]) (hCont (.slice Ao51 t1033.length co51, v1037, v1040, gb1042) _ ⟨hHeld, (rw_ (Kd.R_mono HO1035.out (fun _ hk => ⟨hk.1.2, ⟨hk.2, ⟨hk.1.1.1.2, hk.1.1.2⟩⟩⟩))), (rw_ (Kd.R_mono HO1038.out (fun _ hk => ⟨hk.2, ⟨hk.1.1.1, ⟨hk.1.1.2, hk.1.2⟩⟩⟩))), (rw_ (Kd.R_mono HO1041.out (fun _ hk => ⟨hk.2, ⟨hk.1.1.1, ⟨hk.1.1.2, hk.1.2⟩⟩⟩))), (rw_ (Kd.R_mono HO_1033000.out (fun _ hk => ⟨hk.1.1.2, ⟨hk.1.2, ⟨hk.2, hk.1.1.1⟩⟩⟩))), (rw_ (Kd.R_mono HO_1033001.out (fun _ hk => ⟨hk.1.1.2, ⟨hk.1.2, ⟨hk.2, hk.1.1.1⟩⟩⟩))), (kk_ BK1021), (kk_ BK1022), (kk_ BK1032), (kk_ BK1042), GW1042.out, GE1042.out, NB1021_1042.out, NB1042_1021.out, NB1022_1042.out, NB1042_1022.out, NB1032_1042.out, NB1042_1032.out, hB_⟩)
          rintro ⟨v1034, v1037, v1040, gb1042⟩ w53 ⟨hS_, h0_, h1_, h2_, h3_, h4_, h5_, h6_, h7_, h8_, h9_, h10_, h11_, h12_, h13_, h14_, h15_, h16_, h17_⟩
          have n0_ : Aside0 (Kd.R (Kd.int .i64) 3 w53 w.heap.size (fun k_ => some k_ ≠ (v1037 : Value).ownBlock ∧ some k_ ≠ (v1040 : Value).ownBlock ∧ some k_ ≠ (u1033000 : Value).ownBlock ∧ some k_ ≠ (u1033001 : Value).ownBlock) v1034 t1033) := ⟨h0_⟩
          have n1_ : Aside0 (Kd.R (Kd.int .i64) 3 w53 w.heap.size (fun k_ => some k_ ≠ (v1034 : Value).ownBlock ∧ some k_ ≠ (v1040 : Value).ownBlock ∧ some k_ ≠ (u1033000 : Value).ownBlock ∧ some k_ ≠ (u1033001 : Value).ownBlock) v1037 t1036) := ⟨h1_⟩
          have n2_ : Aside0 (Kd.R (Kd.int .i64) 3 w53 w.heap.size (fun k_ => some k_ ≠ (v1034 : Value).ownBlock ∧ some k_ ≠ (v1037 : Value).ownBlock ∧ some k_ ≠ (u1033000 : Value).ownBlock ∧ some k_ ≠ (u1033001 : Value).ownBlock) v1040 t1039) := ⟨h2_⟩
          have n3_ : Aside0 (Kd.R (Kd.int .i64) 3 w53 w.heap.size (fun k_ => some k_ ≠ (v1034 : Value).ownBlock ∧ some k_ ≠ (v1037 : Value).ownBlock ∧ some k_ ≠ (v1040 : Value).ownBlock ∧ some k_ ≠ (u1033001 : Value).ownBlock) u1033000 x1033000_1) := ⟨h3_⟩
          have n4_ : Aside0 (Kd.R (Kd.int .i64) 3 w53 w.heap.size (fun k_ => some k_ ≠ (v1034 : Value).ownBlock ∧ some k_ ≠ (v1037 : Value).ownBlock ∧ some k_ ≠ (v1040 : Value).ownBlock ∧ some k_ ≠ (u1033000 : Value).ownBlock) u1033001 x1033001_1) := ⟨h4_⟩
          have n5_ : Aside0 (w53.heap[gb1021]? = some (.cells #[.slice A0_0 l0_0.length c0_0, .slice A0_1 l0_1.length c0_1] 33 (0, 0))) := ⟨h5_⟩
          have n6_ : Aside0 (w53.heap[gb1022]? = some (.cells #[.slice none 0 0, .slice none 0 0] 33 (0, 0))) := ⟨h6_⟩
          have n7_ : Aside0 (w53.heap[gb1032]? = some (.cells #[u1033000, u1033001] 33 (0, 0))) := ⟨h7_⟩
          have n8_ : Aside0 (w53.heap[gb1042]? = some (.cells #[.slice none 0 0, .slice none 0 0] 33 (0, 0))) := ⟨h8_⟩
          have n9_ : Aside0 (w.heap.size ≤ gb1042) := ⟨h9_⟩
          have n10_ : Aside0 (w.heap.size ≤ gb1042) := ⟨h10_⟩
          have n11_ : Aside0 (gb1021 ≠ gb1042) := ⟨h11_⟩
          have n12_ : Aside0 (gb1042 ≠ gb1021) := ⟨h12_⟩
          have n13_ : Aside0 (gb1022 ≠ gb1042) := ⟨h13_⟩
          have n14_ : Aside0 (gb1042 ≠ gb1022) := ⟨h14_⟩
          have n15_ : Aside0 (gb1032 ≠ gb1042) := ⟨h15_⟩
          have n16_ : Aside0 (gb1042 ≠ gb1032) := ⟨h16_⟩
          have n17_ : Aside0 (Below w.heap.size w w53) := ⟨h17_⟩
          clear HO_1033000
          clear HO_1033001
          clear BK1021
          clear BK1022
          clear BK1032
          clear HB
          clear h0_ h1_ h2_ h3_ h4_ h5_ h6_ h7_ h8_ h9_ h10_ h11_ h12_ h13_ h14_ h15_ h16_ h17_
          have HO1035 := n0_
          have HO1038 := n1_
          have HO1041 := n2_
          have HO_1033000 := n3_
          have HO_1033001 := n4_
          have BK1021 := n5_
          have BK1022 := n6_
          have BK1032 := n7_
          have BK1042 := n8_
          have GW1042 := n9_
          have GE1042 := n10_
          have NB1021_1042 := n11_
          have NB1042_1021 := n12_
          have NB1022_1042 := n13_
          have NB1042_1022 := n14_
          have NB1032_1042 := n15_
          have NB1042_1032 := n16_
          have HB := n17_
          clear n0_ n1_ n2_ n3_ n4_ n5_ n6_ n7_ n8_ n9_ n10_ n11_ n12_ n13_ n14_ n15_ n16_ n17_
          have hHeld : w53.cell? ⟨gb1021, 0, none⟩ = some (.slice A0_0 l0_0.length c0_0) ∧ w53.cell? ⟨gb1021, 1, none⟩ = some (.slice A0_1 l0_1.length c0_1) := hS_
          obtain ⟨Ao54, co54, eo54⟩ := Kd.R_slice HO1038.out
          (first | subst eo54 | (injection eo54 with f1_ f2_ f3_; have f4_ := f1_.symm; have f5_ := f3_.symm; clear f1_ f2_ f3_; subst f4_; subst f5_))
          obtain ⟨Ao56, co56, eo56⟩ := Kd.R_slice HO1041.out
          (first | subst eo56 | (injection eo56 with f1_ f2_ f3_; have f4_ := f1_.symm; have f5_ := f3_.symm; clear f1_ f2_ f3_; subst f4_; subst f5_))
          refine norm_ (a' := ?_) ?_ ?_
          rotate_left
          · simp only [putAll, Act.put, List.setIfInBounds_toArray, List.set_cons_zero, List.set_cons_succ]
            rfl
          refine one_ (i := 6) (N := none) (bl_ 7 127) rfl rfl (by kernel_rfl) (by decide) (fun K hK => ?_)
          have hs55 : w53.cell? ⟨gb1042, 0, none⟩ = some (.slice none 0 0) := cz0_ BK1042
          have hfs55 := blk_frozen BK1042.out 0
          have hns55_0 := NB1021_1042.out
          have hns55_1 := NB1022_1042.out
          have hns55_2 := NB1032_1042.out
          have hms55_0 := NB1042_1021.out
          have hms55_1 := NB1042_1022.out
          have hms55_2 := NB1042_1032.out
          have hs57 : w53.cell? ⟨gb1042, 1, none⟩ = some (.slice none 0 0) := cz1_ BK1042
          have hfs57 := blk_frozen BK1042.out 1
          have hns57_0 := NB1021_1042.out
          have hns57_1 := NB1022_1042.out
          have hns57_2 := NB1032_1042.out
          have hms57_0 := NB1042_1021.out
          have hms57_1 := NB1042_1022.out
          have hms57_2 := NB1042_1032.out
          refine skip_ (w1 := ?_) (by rfl) rfl ?_ ?_
          rotate_left
          · go_simp
            rfl
          refine hK.out _ _ ⟨((cell_far (p := ⟨gb1042, _, none⟩) NB1021_1042.out _).trans (((cell_far (p := ⟨gb1042, _, none⟩) NB1021_1042.out _).trans (hHeld.1)))), ((cell_far (p := ⟨gb1042, _, none⟩) NB1021_1042.out _).trans (((cell_far (p := ⟨gb1042, _, none⟩) NB1021_1042.out _).trans (hHeld.2))))⟩ (fun hHeld => ?_)
          clear hK K
          refine done_ (by kernel_rfl) ?_
          have hnb58 := NB1042_1021.out
          have hnc58 := NB1021_1042.out
          have hnb59 := NB1042_1022.out
          have hnc59 := NB1022_1042.out
          have hnb60 := NB1042_1032.out
          have hnc60 := NB1032_1042.out
          obtain ⟨hcz61_0, hcz61_1, hfz61_0, hfz61_1⟩ := c2_ BK1042
          have hnb62 := NB1032_1022.out
          have hnc62 := NB1022_1032.out
          obtain ⟨hcz63_0, hcz63_1, hfz63_0, hfz63_1⟩ := c2_ BK1032
          obtain ⟨Ao64, co64, eo64⟩ := Kd.R_slice HO_1033000.out
          subst eo64
          obtain ⟨Ao65, co65, eo65⟩ := Kd.R_slice HO_1033001.out
          subst eo65
          try go_wp2_with (first | ((with_reducible refine gate_callee (f := 128) rfl ?_); refine gL_ (some 24) Try.func128 #[.agg #[.slice Ao54 t1036.length co54, .slice Ao56 t1039.length co56], .agg #[.slice Ao64 x1033000_1.length co64, .slice Ao65 x1033001_1.length co65]] rfl qa_ ?_; (with_reducible refine (spec_l03Before.calls k1 _ _ t1036 _ _ t1039 _ _ x1033000_1 _ _ x1033001_1 false _ ?side1 ?side2 ?side3 ?side4 ?side5 ?side6 ?side7 ?side8 A19.out).mono ?_); (case side1 => refine (Kd.R_reads' (e := 3) (base := w.heap.size) (ok := fun k_ => (some k_ ≠ (v1034 : Value).ownBlock ∧ (some k_ ≠ (.slice Ao56 t1039.length co56 : Value).ownBlock ∧ (some k_ ≠ (.slice Ao64 x1033000_1.length co64 : Value).ownBlock ∧ some k_ ≠ (.slice Ao65 x1033001_1.length co65 : Value).ownBlock)))) (n := t1036.length) (c := co54) ?_).2.2; exact (rw_ (fa_ HO1038 BK1042))); (case side2 => exact (Kd.R_reads' HO1038.out).2.1); (case side3 => refine (Kd.R_reads' (e := 3) (base := w.heap.size) (ok := fun k_ => (some k_ ≠ (v1034 : Value).ownBlock ∧ (some k_ ≠ (.slice Ao54 t1036.length co54 : Value).ownBlock ∧ (some k_ ≠ (.slice Ao64 x1033000_1.length co64 : Value).ownBlock ∧ some k_ ≠ (.slice Ao65 x1033001_1.length co65 : Value).ownBlock)))) (n := t1039.length) (c := co56) ?_).2.2; exact (rw_ (fa_ HO1041 BK1042))); (case side4 => exact (Kd.R_reads' HO1041.out).2.1); (case side5 => refine (Kd.R_reads' (e := 3) (base := w.heap.size) (ok := fun k_ => (some k_ ≠ (v1034 : Value).ownBlock ∧ (some k_ ≠ (.slice Ao54 t1036.length co54 : Value).ownBlock ∧ (some k_ ≠ (.slice Ao56 t1039.length co56 : Value).ownBlock ∧ some k_ ≠ (.slice Ao65 x1033001_1.length co65 : Value).ownBlock)))) (n := x1033000_1.length) (c := co64) ?_).2.2; exact (rw_ (fa_ HO_1033000 BK1042))); (case side6 => exact (Kd.R_reads' HO_1033000.out).2.1); (case side7 => refine (Kd.R_reads' (e := 3) (base := w.heap.size) (ok := fun k_ => (some k_ ≠ (v1034 : Value).ownBlock ∧ (some k_ ≠ (.slice Ao54 t1036.length co54 : Value).ownBlock ∧ (some k_ ≠ (.slice Ao56 t1039.length co56 : Value).ownBlock ∧ some k_ ≠ (.slice Ao64 x1033000_1.length co64 : Value).ownBlock)))) (n := x1033001_1.length) (c := co65) ?_).2.2; exact (rw_ (fa_ HO_1033001 BK1042))); (case side8 => exact (Kd.R_reads' HO_1033001.out).2.1); rintro e w66 ⟨rfl, hb⟩; refine ⟨_, rfl, ?_⟩; replace HO_1033000 := Aside0.mk (Kd.R_below (rw_ (fa_ HO_1033000 BK1042)) hb); replace HO_1033001 := Aside0.mk (Kd.R_below (rw_ (fa_ HO_1033001 BK1042)) hb); replace HO1035 := Aside0.mk (Kd.R_below (rw_ (fa_ HO1035 BK1042)) hb); replace HO1038 := Aside0.mk (Kd.R_below (rw_ (fa_ HO1038 BK1042)) hb); replace HO1041 := Aside0.mk (Kd.R_below (rw_ (fa_ HO1041 BK1042)) hb); replace BK1021 := Aside0.mk (blk_below (g := gb1021) (o := .cells #[.slice A0_0 l0_0.length c0_0, .slice A0_1 l0_1.length c0_1] 33 (0, 0)) (by (with_reducible repeat (first | refine blk_drewN ?_ _ | refine blk_drew ?_ | refine blk_alloc ?_ _)); refine blk_far ?_ NB1021_1042.out _; (with_reducible repeat (first | refine blk_drewN ?_ _ | refine blk_drew ?_ | refine blk_alloc ?_ _)); refine blk_far ?_ NB1021_1042.out _; (with_reducible repeat (first | refine blk_drewN ?_ _ | refine blk_drew ?_ | refine blk_alloc ?_ _)); exact BK1021.out) hb); replace BK1022 := Aside0.mk (blk_below (g := gb1022) (o := .cells #[.slice none 0 0, .slice none 0 0] 33 (0, 0)) (by (with_reducible repeat (first | refine blk_drewN ?_ _ | refine blk_drew ?_ | refine blk_alloc ?_ _)); refine blk_far ?_ NB1022_1042.out _; (with_reducible repeat (first | refine blk_drewN ?_ _ | refine blk_drew ?_ | refine blk_alloc ?_ _)); refine blk_far ?_ NB1022_1042.out _; (with_reducible repeat (first | refine blk_drewN ?_ _ | refine blk_drew ?_ | refine blk_alloc ?_ _)); exact BK1022.out) hb); replace BK1032 := Aside0.mk (blk_below (g := gb1032) (o := .cells #[.slice Ao64 x1033000_1.length co64, .slice Ao65 x1033001_1.length co65] 33 (0, 0)) (by (with_reducible repeat (first | refine blk_drewN ?_ _ | refine blk_drew ?_ | refine blk_alloc ?_ _)); refine blk_far ?_ NB1032_1042.out _; (with_reducible repeat (first | refine blk_drewN ?_ _ | refine blk_drew ?_ | refine blk_alloc ?_ _)); refine blk_far ?_ NB1032_1042.out _; (with_reducible repeat (first | refine blk_drewN ?_ _ | refine blk_drew ?_ | refine blk_alloc ?_ _)); exact BK1032.out) hb); replace BK1042 := Aside0.mk (blk_below (g := gb1042) (o := .cells #[.slice Ao54 t1036.length co54, .slice Ao56 t1039.length co56] 33 (0, 0)) qp_ hb); replace HB := b1_ hb; clear hb))
          go_roundg k1
          case measure => have := HK1.out; omega
          case rel => exact ⟨(wrap64 (x4_1 + 1)), (x1033000_1), (x1033001_1), (.slice Ao64 x1033000_1.length co64), (.slice Ao65 x1033001_1.length co65), qc_, H', ⟨by have := HK1.out; omega⟩, ⟨(rw_ (Kd.R_mono HO_1033000.out (fun _ hk => hk.2.2.2)))⟩, ⟨(rw_ (Kd.R_mono HO_1033001.out (fun _ hk => hk.2.2.2)))⟩, ⟨(kk_ BK1021)⟩, ⟨(kk_ BK1022)⟩, ⟨(kk_ BK1032)⟩, ⟨hB_⟩⟩
      · rw [if_neg c16] at H
        have c16b0 := decide_eq_false c16
        clear c16
        simp only [Option.some.injEq, Prod.mk.injEq] at H
        obtain ⟨rfl, rfl⟩ := H
        have hnb67 := NB1021_1022.out
        have hnc67 := NB1022_1021.out
        have hnb68 := NB1021_1032.out
        have hnc68 := NB1032_1021.out
        obtain ⟨hcz69_0, hcz69_1, hfz69_0, hfz69_1⟩ := c2_ BK1021
        have hnb70 := NB1032_1022.out
        have hnc70 := NB1022_1032.out
        obtain ⟨hcz71_0, hcz71_1, hfz71_0, hfz71_1⟩ := c2_ BK1032
        obtain ⟨Ao72, co72, eo72⟩ := Kd.R_slice HO_1033000.out
        subst eo72
        obtain ⟨hcz73_0, hcz73_1, hfz73_0, hfz73_1⟩ := c2_ BK1022
        obtain ⟨Ao74, co74, eo74⟩ := Kd.R_slice HO_1033001.out
        subst eo74
        go_wp2
        refine bodyPost_ret (results_cell_row rfl _ _ gb1022 33 #[.slice Ao72 x1033000_1.length co72, .slice Ao74 x1033001_1.length co74] (0, 0) _ rfl qp_ Try.underlying33 rfl (by kernel_rfl)) rfl ?_
        exact ⟨_, _, qb_, (rw_ (fa_ HO_1033000 BK1022)), (rw_ (fa_ HO_1033001 BK1022)), hB_⟩
end Go.Proofs.Ytoijcallajegfaa.A
end
section
/- The canonical form: the program and the reference find the same one. No conditions. -/
namespace Go.Proofs.Ytoijcallajegfaa.M
set_option linter.unusedVariables false
set_option linter.unusedSimpArgs false
open Go.RowKit Go.Proofs.YtoijcallajegfaaW.PrintWords Go.Proofs.YtoijcallajegfaaW.PrintLast Go.Proofs.YtoijcallajegfaaW.PrintMore Go.Proofs.Ytoijcallajegfaa.A
def lexC : List Nat → List Nat → Int
  | [], [] => 0
  | [], _ :: _ => -1
  | _ :: _, [] => 1
  | a :: l, b :: m => if a < b then -1 else if b < a then 1 else lexC l m
theorem cmp_ev (a b : Nat) : cmp_Compare_int.f (a : Int) (b : Int) = some (if a < b then -1 else if b < a then 1 else 0) := by
  unfold cmp_Compare_int.f cmp_isNaN_int.f
  simp only [bne_self_eq_false, Option.bind_some, Bool.false_eq_true, if_false]
  by_cases h1 : a < b
  · have : (a : Int) < (b : Int) := by omega
    simp only [h1, this, if_true]
  · have n1 : ¬ (a : Int) < (b : Int) := by omega
    by_cases h2 : b < a
    · have : (a : Int) > (b : Int) := by omega
      simp only [h1, n1, h2, this, if_true, if_false]
    · have n2 : ¬ (a : Int) > (b : Int) := by omega
      simp only [h1, n1, h2, n2, if_false]
theorem lexC_eq : ∀ (a b : List Nat), lexC a b = 0 ↔ a = b := by
  intro a
  induction a with
  | nil => intro b; cases b <;> simp [lexC]
  | cons x a ih =>
    intro b
    cases b with
    | nil => simp [lexC]
    | cons y b =>
      unfold lexC
      by_cases h1 : x < y
      · simp [h1]; omega
      · by_cases h2 : y < x
        · simp [h1, h2]; omega
        · have e : x = y := by omega
          subst e
          simp [h1, ih]
theorem compare_ev (a b : List Nat) (hl : a.length ≤ 1000000) : Ev (fun k => slices_Compare_int_int.f k (I a) (I b)) (lexC a b) := by
  unfold slices_Compare_int_int.f
  have H : ∀ d i : Nat, i + d = a.length → i ≤ b.length → Ev (fun k => slices_Compare_int_int.l0 k (I a) (I b) (I a) (a.length : Int) (i : Int)) (lexC (a.drop i) (b.drop i)) := by
    intro d
    induction d with
    | zero =>
      intro i hi hb
      refine ev_succ ?_
      have c1 : ¬ ((i : Int) < (a.length : Int)) := by omega
      rw [List.drop_of_length_le (l := a) (by omega)]
      simp only [slices_Compare_int_int.l0, c1, I_len', if_false]
      by_cases h : (a.length : Int) < (b.length : Int)
      · have : lexC [] (b.drop i) = -1 := by
          rw [List.drop_eq_getElem_cons (by omega)]
          rfl
        simp only [h, if_true, this]
        exact Ev.now _
      · have : lexC [] (b.drop i) = 0 := by
          rw [List.drop_of_length_le (by omega)]
          rfl
        simp only [h, if_false, this]
        exact Ev.now _
    | succ d ih =>
      intro i hi hb
      have hia : i < a.length := by omega
      rw [List.drop_eq_getElem_cons hia, ← g_get hia]
      have c1 : (i : Int) < (a.length : Int) := by omega
      have c2 : (0 : Int) ≤ (i : Int) := by omega
      have c3 := w64s i (by omega)
      refine ev_succ ?_
      by_cases h : i < b.length
      · rw [List.drop_eq_getElem_cons h, ← g_get h]
        have n1 : ¬ ((i : Int) ≥ (b.length : Int)) := by omega
        have n2 : (i : Int) < (b.length : Int) := by omega
        simp only [slices_Compare_int_int.l0, c1, c2, c3, n1, n2, I_len', rdI, cmp_ev, Option.bind_some, if_true, if_false]
        unfold lexC
        by_cases h1 : g a i < g b i
        · have z : ¬ ((-1 : Int) = 0) := by omega
          simp only [h1, z, if_true, if_false]
          exact Ev.now _
        · by_cases h2 : g b i < g a i
          · have z : ¬ ((1 : Int) = 0) := by omega
            simp only [h1, h2, z, if_true, if_false]
            exact Ev.now _
          · simp only [h1, h2, if_true, if_false]
            exact ih (i + 1) (by omega) (by omega)
      · have n1 : (i : Int) ≥ (b.length : Int) := by omega
        rw [List.drop_of_length_le (l := b) (by omega)]
        simp only [slices_Compare_int_int.l0, c1, c2, n1, I_len', if_true]
        exact Ev.now _
  have key := H a.length 0 (Nat.zero_add _) (Nat.zero_le _)
  rw [List.drop_zero, List.drop_zero] at key
  simp only [I_len']
  exact key
theorem less_ev (a b : List Nat) (hl : a.length ≤ 1000000) (he : b.length = a.length) : Ev (fun k => spec_l03Less.f k (I a) (I b)) (decide (lexC a b < 0)) := by
  unfold spec_l03Less.f
  have H : ∀ d i : Nat, i + d = a.length → Ev (fun k => spec_l03Less.l0 k (I b) (I a) (a.length : Int) (i : Int)) (decide (lexC (a.drop i) (b.drop i) < 0)) := by
    intro d
    induction d with
    | zero =>
      intro i hi
      refine ev_succ ?_
      have c1 : ¬ ((i : Int) < (a.length : Int)) := by omega
      rw [List.drop_of_length_le (l := a) (by omega), List.drop_of_length_le (l := b) (by omega)]
      simp only [spec_l03Less.l0, c1, if_false]
      exact Ev.now _
    | succ d ih =>
      intro i hi
      have hia : i < a.length := by omega
      have hib : i < b.length := by omega
      rw [List.drop_eq_getElem_cons hia, ← g_get hia, List.drop_eq_getElem_cons hib, ← g_get hib]
      have c1 : (i : Int) < (a.length : Int) := by omega
      have c2 : (0 : Int) ≤ (i : Int) := by omega
      have n2 : (i : Int) < (b.length : Int) := by omega
      have c3 := w64s i (by omega)
      refine ev_succ ?_
      simp only [spec_l03Less.l0, c1, c2, c3, n2, I_len', rdI, if_true]
      unfold lexC
      by_cases h1 : g a i < g b i
      · have z1 : ¬ (((g a i : Nat) : Int) = ((g b i : Nat) : Int)) := by omega
        have z2 : decide (((g a i : Nat) : Int) < ((g b i : Nat) : Int)) = true := by rw [decide_eq_true_iff]; omega
        have z3 : decide ((-1 : Int) < 0) = true := by decide
        simp only [h1, z1, z2, z3, if_true, if_false]
        exact Ev.now _
      · by_cases h2 : g b i < g a i
        · have z1 : ¬ (((g a i : Nat) : Int) = ((g b i : Nat) : Int)) := by omega
          have z2 : decide (((g a i : Nat) : Int) < ((g b i : Nat) : Int)) = false := by rw [decide_eq_false_iff_not]; omega
          have z3 : decide ((1 : Int) < 0) = false := by decide
          simp only [h1, h2, z1, z2, z3, if_true, if_false]
          exact Ev.now _
        · have z1 : ((g a i : Nat) : Int) = ((g b i : Nat) : Int) := by omega
          simp only [h1, h2, z1, if_true, if_false]
          exact ih (i + 1) (by omega)
  have key := H a.length 0 (Nat.zero_add _)
  rw [List.drop_zero, List.drop_zero] at key
  simp only [I_len']
  exact key
def cmpS (a b : List Nat × List Nat) : Int := if lexC a.1 b.1 = 0 then lexC a.2 b.2 else lexC a.1 b.1
theorem impl_cmpS (a b : List Nat × List Nat) (h1 : a.1.length ≤ 1000000) (h2 : a.2.length ≤ 1000000) : Ev (fun k => impl_compareSurfaces.f k (I a.1) (I a.2) (I b.1) (I b.2)) (cmpS a b) := by
  unfold impl_compareSurfaces.f cmpS
  refine Ev.bind (compare_ev a.1 b.1 h1) ?_
  by_cases h : lexC a.1 b.1 = 0
  · simp only [h, if_true]
    exact Ev.bind (compare_ev a.2 b.2 h2) (Ev.now _)
  · simp only [h, if_false]
    exact Ev.now _
theorem sameList_nat (a b : List Nat) (h : a.length ≤ 1000000000) : Ev (fun k => spec_SameList.f k (I a) (I b)) (decide (a = b)) := by
  unfold spec_SameList.f
  by_cases hl : (a.length : Int) = (b.length : Int)
  · have hl' : a.length = b.length := by omega
    simp only [I_len', hl, ne_eq, not_true_eq_false, if_false, if_true]
    have H : ∀ d i : Nat, i + d = a.length → Ev (fun k => spec_SameList.l0 k (I b) (I a) (b.length : Int) (i : Int)) (decide (a.drop i = b.drop i)) := by
      intro d
      induction d with
      | zero =>
        intro i hi
        refine ev_succ ?_
        have c1 : ¬ ((i : Int) < (b.length : Int)) := by omega
        have e : decide (a.drop i = b.drop i) = true := by rw [List.drop_of_length_le (by omega), List.drop_of_length_le (by omega)]; simp
        simp only [spec_SameList.l0, c1, if_false, e]
        exact Ev.now _
      | succ d ih =>
        intro i hi
        have hia : i < a.length := by omega
        have hib : i < b.length := by omega
        rw [List.drop_eq_getElem_cons hia, ← g_get hia, List.drop_eq_getElem_cons hib, ← g_get hib]
        have c1 : (i : Int) < (b.length : Int) := by omega
        have c2 : (0 : Int) ≤ (i : Int) := by omega
        have c4 : (i : Int) < (a.length : Int) := by omega
        have c3 := w64s i (by omega)
        refine ev_succ ?_
        by_cases he : g a i = g b i
        · have z : ((g a i : Nat) : Int) = ((g b i : Nat) : Int) := by omega
          have e : decide (g a i :: a.drop (i + 1) = g b i :: b.drop (i + 1)) = decide (a.drop (i + 1) = b.drop (i + 1)) := by simp [he]
          rw [e]
          simp only [spec_SameList.l0, c1, c2, c3, c4, I_len', rdI, z, if_true]
          exact ih (i + 1) (by omega)
        · have z : ¬ (((g a i : Nat) : Int) = ((g b i : Nat) : Int)) := by omega
          have e : decide (g a i :: a.drop (i + 1) = g b i :: b.drop (i + 1)) = false := by simp [he]
          rw [e]
          simp only [spec_SameList.l0, c1, c2, c4, I_len', rdI, z, if_true, if_false]
          exact Ev.now _
    have key := H a.length 0 (Nat.zero_add _)
    rw [List.drop_zero, List.drop_zero] at key
    exact key
  · have e : decide (a = b) = false := by
      rw [decide_eq_false_iff_not]
      intro e
      rw [e] at hl
      exact hl rfl
    simp only [I_len', hl, ne_eq, not_false_eq_true, if_true, if_false, e]
    exact Ev.now _
theorem spec_before (a b : List Nat × List Nat) (h1 : a.1.length ≤ 1000000) (h2 : a.2.length ≤ 1000000) (e1 : b.1.length = a.1.length) (e2 : b.2.length = a.2.length) : Ev (fun k => spec_l03Before.f k (I a.1) (I a.2) (I b.1) (I b.2)) (decide (cmpS a b < 0)) := by
  unfold spec_l03Before.f cmpS
  refine Ev.bind (sameList_nat a.1 b.1 (by omega)) ?_
  by_cases h : a.1 = b.1
  · have z := (lexC_eq a.1 b.1).mpr h
    rw [z]
    simp only [h, decide_true, if_true]
    exact Ev.bind (less_ev a.2 b.2 h2 e2) (Ev.now _)
  · have z : ¬ lexC a.1 b.1 = 0 := fun k => h ((lexC_eq _ _).mp k)
    simp only [h, z, decide_false, Bool.false_eq_true, if_false]
    exact Ev.bind (less_ev a.1 b.1 h1 e1) (Ev.now _)
def rS (r u : List Nat) (s : Nat) : List Nat × List Nat := rnS r u (nm r u s)
theorem rS_len {r u : List Nat} (s : Nat) : (rS r u s).1.length = r.length ∧ (rS r u s).2.length = u.length := ⟨ren_len _ _, ren_len _ _⟩
def canK (r u : List Nat) : Nat → List Nat × List Nat
  | 0 => rS r u 0
  | k + 1 => if cmpS (rS r u (k + 1)) (canK r u k) < 0 then rS r u (k + 1) else canK r u k
theorem canK_len {r u : List Nat} (k : Nat) : (canK r u k).1.length = r.length ∧ (canK r u k).2.length = u.length := by
  induction k with
  | zero => exact rS_len 0
  | succ k ih =>
    unfold canK
    split
    · exact rS_len _
    · exact ih
def canS (r u : List Nat) : List Nat × List Nat := canK r u (r.length - 1)
theorem spec_canon {r u : List Nat} (hs : Sf r u) : Ev (fun k => spec_l03Canon.f k (I r) (I u)) (I (canS r u).1, I (canS r u).2) := by
  have hle := hs.le
  have heq := hs.eq
  have hpos := hs.pos
  unfold spec_l03Canon.f
  have e0 := spec_names hs hpos
  have q0 := isP_nm hs hpos
  refine Ev.bind e0 (Ev.bind (spec_renS hs q0.1 q0.2) ?_)
  have H : ∀ d i : Nat, i + 1 + d = r.length → Ev (fun k => spec_l03Canon.l0 k ((i + 1 : Nat) : Int) (I r) (I u) (I (canK r u i).1) (I (canK r u i).2)) (I (canS r u).1, I (canS r u).2) := by
    intro d
    induction d with
    | zero =>
      intro i hi
      refine ev_succ ?_
      have c1 : ¬ (((i + 1 : Nat) : Int) < (r.length : Int)) := by omega
      have e : canS r u = canK r u i := by
        unfold canS
        congr 1
        omega
      rw [e]
      simp only [spec_l03Canon.l0, c1, I_len', if_false]
      exact Ev.now _
    | succ d ih =>
      intro i hi
      have hi1 : i + 1 < r.length := by omega
      have q1 := isP_nm hs hi1
      have c1 : ((i + 1 : Nat) : Int) < (r.length : Int) := by omega
      have c3 := w64s (i + 1) (by omega)
      have lk := canK_len (r := r) (u := u) i
      have lr := rS_len (r := r) (u := u) (i + 1)
      refine ev_succ ?_
      simp only [spec_l03Canon.l0, c1, c3, I_len', if_true]
      refine Ev.bind (spec_names hs hi1) (Ev.bind (spec_renS hs q1.1 q1.2) ?_)
      refine Ev.bind (spec_before (rS r u (i + 1)) (canK r u i) (by rw [lr.1]; omega) (by rw [lr.2]; omega) (by rw [lr.1, lk.1]) (by rw [lr.2, lk.2])) ?_
      have key := ih (i + 1) (by omega)
      unfold canK at key
      by_cases h : cmpS (rS r u (i + 1)) (canK r u i) < 0
      · rw [if_pos h] at key
        simp only [h, decide_true, if_true]
        exact key
      · rw [if_neg h] at key
        simp only [h, decide_false, Bool.false_eq_true, if_false]
        exact key
  have key := H (r.length - 1) 0 (by omega)
  exact key
def namedL (r u : List Nat) (n : Nat) : List S33 := (List.range n).map (fun s => (⟨I (rS r u s).1, I (rS r u s).2⟩ : S33))
theorem namedL_len (r u : List Nat) (n : Nat) : (namedL r u n).length = n := by simp [namedL]
theorem rd_named {r u : List Nat} {n i : Nat} (h : i < n) : rd_T33 (namedL r u n) (i : Int) = ⟨I (rS r u i).1, I (rS r u i).2⟩ := by
  unfold rd_T33 namedL
  simp [List.getD_eq_getElem?_getD, h]
theorem count_sq {r u : List Nat} (hs : Sf r u) : Ev (fun k => impl_CountSquares.f k (I r) (I u)) (r.length : Int) := by
  unfold impl_CountSquares.f
  refine Ev.bind (impl_surf _ _) ?_
  have h0 := surfB_I.mpr hs
  simp only [h0, I_len', if_true]
  exact Ev.now _
theorem impl_named {r u : List Nat} (hs : Sf r u) : Ev (fun k => impl_namedFrom.f k (I r) (I u)) (namedL r u r.length) := by
  have hle := hs.le
  unfold impl_namedFrom.f
  have H : ∀ d i : Nat, i + d = r.length → Ev (fun k => impl_namedFrom.l0 k (namedL r u i) (i : Int) (I r) (I u)) (namedL r u r.length) := by
    intro d
    induction d with
    | zero =>
      intro i hi
      obtain rfl : i = r.length := by omega
      refine ev_succ ?_
      simp only [impl_namedFrom.l0]
      refine Ev.bind (count_sq hs) ?_
      have c1 : ¬ ((r.length : Int) < (r.length : Int)) := by omega
      simp only [c1, if_false]
      exact Ev.now _
    | succ d ih =>
      intro i hi
      have hil : i < r.length := by omega
      have q1 := isP_nm hs hil
      refine ev_succ ?_
      simp only [impl_namedFrom.l0]
      refine Ev.bind (count_sq hs) ?_
      have c1 : (i : Int) < (r.length : Int) := by omega
      have c2 : (namedL r u i).length < 2932031007402 := by rw [namedL_len]; omega
      have c3 := w64s i (by omega)
      simp only [c1, if_true]
      refine Ev.bind (impl_names hs hil) (Ev.bind (impl_renS hs q1.1 q1.2) ?_)
      have e : namedL r u i ++ [(⟨I (rnS r u (nm r u i)).1, I (rnS r u (nm r u i)).2⟩ : S33)] = namedL r u (i + 1) := by
        unfold namedL
        rw [List.range_succ, List.map_append]
        rfl
      simp only [c2, c3, e, if_true]
      exact ih (i + 1) (by omega)
  exact H r.length 0 (Nat.zero_add _)
theorem impl_canon {r u : List Nat} (hs : Sf r u) : Ev (fun k => impl_CanonOf.f k (I r) (I u)) (I (canS r u).1, I (canS r u).2, true) := by
  have hle := hs.le
  have heq := hs.eq
  have hpos := hs.pos
  unfold impl_CanonOf.f
  refine Ev.bind (impl_named hs) ?_
  have c0 : ¬ ((r.length : Int) = 0) := by omega
  simp only [namedL_len, c0, if_false]
  refine Ev.bind (a := (I (canS r u).1, I (canS r u).2)) ?_ (Ev.now _)
  unfold impl_Surface_59.f
  have c1 : ¬ ((r.length : Int) < 1) := by omega
  have c2 : (0 : Int) < (r.length : Int) := by omega
  have e0 : rd_T33 (namedL r u r.length) 0 = ⟨I (canK r u 0).1, I (canK r u 0).2⟩ := rd_named hpos
  simp only [namedL_len, c1, c2, e0, if_true, if_false]
  have H : ∀ d i : Nat, i + 1 + d = r.length → Ev (fun k => impl_Surface_59.l0 k (namedL r u r.length) ((i + 1 : Nat) : Int) (I (canK r u i).1) (I (canK r u i).2)) (I (canS r u).1, I (canS r u).2) := by
    intro d
    induction d with
    | zero =>
      intro i hi
      refine ev_succ ?_
      have c1 : ¬ (((i + 1 : Nat) : Int) < (r.length : Int)) := by omega
      have e : canS r u = canK r u i := by
        unfold canS
        congr 1
        omega
      rw [e]
      simp only [impl_Surface_59.l0, c1, namedL_len, if_false]
      exact Ev.now _
    | succ d ih =>
      intro i hi
      have hi1 : i + 1 < r.length := by omega
      have c1 : ((i + 1 : Nat) : Int) < (r.length : Int) := by omega
      have c2 : (0 : Int) ≤ ((i + 1 : Nat) : Int) := by omega
      have c4 : rd_T33 (namedL r u r.length) ((i + 1 : Nat) : Int) = ⟨I (rS r u (i + 1)).1, I (rS r u (i + 1)).2⟩ := rd_named hi1
      have c3 := w64s (i + 1) (by omega)
      have lr := rS_len (r := r) (u := u) (i + 1)
      refine ev_succ ?_
      simp only [impl_Surface_59.l0, c1, c2, c3, c4, namedL_len, if_true]
      refine Ev.bind (impl_cmpS (rS r u (i + 1)) (canK r u i) (by rw [lr.1]; omega) (by rw [lr.2]; omega)) ?_
      have key := ih (i + 1) (by omega)
      unfold canK at key
      by_cases h : cmpS (rS r u (i + 1)) (canK r u i) < 0
      · rw [if_pos h] at key
        simp only [h, if_true]
        exact key
      · rw [if_neg h] at key
        simp only [h, if_false]
        exact key
  exact H (r.length - 1) 0 (by omega)
theorem impl_canon_no {r u : List Int} (h : ¬ surfB r u = true) : Ev (fun k => impl_CanonOf.f k r u) ([], [], false) := by
  have h' := Bool.eq_false_iff.mpr h
  unfold impl_CanonOf.f
  refine Ev.bind (a := ([] : List S33)) ?_ ?_
  · unfold impl_namedFrom.f
    refine ev_succ ?_
    simp only [impl_namedFrom.l0]
    refine Ev.bind (a := (0 : Int)) ?_ ?_
    · unfold impl_CountSquares.f
      refine Ev.bind (impl_surf _ _) ?_
      simp only [h', Bool.false_eq_true, if_false]
      exact Ev.now _
    · have c1 : ¬ ((0 : Int) < 0) := by omega
      simp only [c1, if_false]
      exact Ev.now _
  · simp only [List.length_nil]
    exact Ev.now _
theorem equal_ev (a b : List Nat) (h : a.length ≤ 1000000000) : Ev (fun k => impl_SameList.f k (I a) (I b)) (decide (a = b)) := by
  unfold impl_SameList.f slices_Equal_int_int.f
  refine Ev.bind (a := decide (a = b)) ?_ (Ev.now _)
  by_cases hl : (a.length : Int) = (b.length : Int)
  · have hl' : a.length = b.length := by omega
    simp only [I_len', hl, if_true]
    have H : ∀ d i : Nat, i + d = a.length → Ev (fun k => slices_Equal_int_int.l0 k (I a) (I b) (b.length : Int) (i : Int)) (decide (a.drop i = b.drop i)) := by
      intro d
      induction d with
      | zero =>
        intro i hi
        refine ev_succ ?_
        have c1 : ¬ ((i : Int) < (b.length : Int)) := by omega
        have e : decide (a.drop i = b.drop i) = true := by rw [List.drop_of_length_le (by omega), List.drop_of_length_le (by omega)]; simp
        simp only [slices_Equal_int_int.l0, c1, if_false, e]
        exact Ev.now _
      | succ d ih =>
        intro i hi
        have hia : i < a.length := by omega
        have hib : i < b.length := by omega
        rw [List.drop_eq_getElem_cons hia, ← g_get hia, List.drop_eq_getElem_cons hib, ← g_get hib]
        have c1 : (i : Int) < (b.length : Int) := by omega
        have c2 : (0 : Int) ≤ (i : Int) := by omega
        have c4 : (i : Int) < (a.length : Int) := by omega
        have c3 := w64s i (by omega)
        refine ev_succ ?_
        by_cases he : g a i = g b i
        · have z : ((g a i : Nat) : Int) = ((g b i : Nat) : Int) := by omega
          have e : decide (g a i :: a.drop (i + 1) = g b i :: b.drop (i + 1)) = decide (a.drop (i + 1) = b.drop (i + 1)) := by simp [he]
          rw [e]
          simp only [slices_Equal_int_int.l0, c1, c2, c3, c4, I_len', rdI, z, if_true]
          exact ih (i + 1) (by omega)
        · have z : ¬ (((g a i : Nat) : Int) = ((g b i : Nat) : Int)) := by omega
          have e : decide (g a i :: a.drop (i + 1) = g b i :: b.drop (i + 1)) = false := by simp [he]
          rw [e]
          simp only [slices_Equal_int_int.l0, c1, c2, c4, I_len', rdI, z, if_true, if_false]
          exact Ev.now _
    have key := H a.length 0 (Nat.zero_add _)
    rw [List.drop_zero, List.drop_zero] at key
    exact key
  · have e : decide (a = b) = false := by
      rw [decide_eq_false_iff_not]
      intro e
      rw [e] at hl
      exact hl rfl
    simp only [I_len', hl, if_false, e]
    exact Ev.now _
end Go.Proofs.Ytoijcallajegfaa.M
end
section
/- The order of surfaces. No conditions. -/
namespace Go.Proofs.Ytoijcallajegfaa.M
set_option linter.unusedVariables false
set_option linter.unusedSimpArgs false
open Go.RowKit Go.Proofs.YtoijcallajegfaaW.PrintWords Go.Proofs.YtoijcallajegfaaW.PrintLast Go.Proofs.YtoijcallajegfaaW.PrintMore Go.Proofs.Ytoijcallajegfaa.A
theorem lexC_neg : ∀ (a b : List Nat), lexC b a = - lexC a b := by
  intro a
  induction a with
  | nil => intro b; cases b <;> simp [lexC]
  | cons x a ih =>
    intro b
    cases b with
    | nil => simp [lexC]
    | cons y b =>
      unfold lexC
      by_cases h1 : x < y
      · have h2 : ¬ y < x := by omega
        simp [h1, h2]
      · by_cases h2 : y < x
        · simp [h1, h2]
        · simp [h1, h2, ih]
theorem lexC_tr : ∀ (a b c : List Nat), lexC a b < 0 → lexC b c < 0 → lexC a c < 0 := by
  intro a
  induction a with
  | nil =>
    intro b c h1 h2
    cases c with
    | nil => cases b <;> simp [lexC] at h1 h2
    | cons z c => simp [lexC]
  | cons x a ih =>
    intro b c h1 h2
    cases b with
    | nil => simp [lexC] at h1
    | cons y b =>
      cases c with
      | nil => simp [lexC] at h2
      | cons z c =>
        unfold lexC at h1 h2 ⊢
        by_cases p1 : x < y
        · by_cases p2 : y < z
          · have : x < z := by omega
            simp [this]
          · by_cases p3 : z < y
            · simp [p2, p3] at h2
            · have : x < z := by omega
              simp [this]
        · by_cases q1 : y < x
          · simp [p1, q1] at h1
          · have e : x = y := by omega
            subst e
            by_cases p2 : x < z
            · simp [p2]
            · by_cases p3 : z < x
              · simp [p2, p3] at h2
              · simp only [p2, p3, if_false] at h2 ⊢
                simp only [p1, q1, if_false] at h1
                exact ih b c h1 h2
theorem cmpS_eq (a b : List Nat × List Nat) : cmpS a b = 0 ↔ a = b := by
  unfold cmpS
  by_cases h : lexC a.1 b.1 = 0
  · rw [if_pos h]
    have e := (lexC_eq _ _).1 h
    constructor
    · intro h2
      exact Prod.ext e ((lexC_eq _ _).1 h2)
    · intro h2
      rw [h2]
      exact (lexC_eq _ _).2 rfl
  · rw [if_neg h]
    constructor
    · intro h2; exact absurd h2 h
    · intro h2
      rw [h2] at h
      exact absurd ((lexC_eq _ _).2 rfl) h
theorem cmpS_neg (a b : List Nat × List Nat) : cmpS b a = - cmpS a b := by
  unfold cmpS
  have h1 := lexC_neg a.1 b.1
  have h2 := lexC_neg a.2 b.2
  by_cases h : lexC a.1 b.1 = 0
  · have h' : lexC b.1 a.1 = 0 := by omega
    rw [if_pos h, if_pos h', h2]
  · have h' : ¬ lexC b.1 a.1 = 0 := by omega
    rw [if_neg h, if_neg h', h1]
theorem cmpS_tr (a b c : List Nat × List Nat) (h1 : cmpS a b < 0) (h2 : cmpS b c < 0) : cmpS a c < 0 := by
  unfold cmpS at *
  by_cases p : lexC a.1 b.1 = 0
  · rw [if_pos p] at h1
    have e := (lexC_eq _ _).1 p
    rw [e]
    by_cases q : lexC b.1 c.1 = 0
    · rw [if_pos q] at h2 ⊢
      exact lexC_tr _ _ _ h1 h2
    · rw [if_neg q] at h2 ⊢
      exact h2
  · rw [if_neg p] at h1
    by_cases q : lexC b.1 c.1 = 0
    · rw [if_pos q] at h2
      have e := (lexC_eq _ _).1 q
      rw [← e, if_neg p]
      exact h1
    · rw [if_neg q] at h2
      have := lexC_tr _ _ _ h1 h2
      rw [if_neg (by omega)]
      exact this
theorem cmpS_le_tr (a b c : List Nat × List Nat) (h1 : ¬ cmpS a b < 0) (h2 : ¬ cmpS b c < 0) : ¬ cmpS a c < 0 := by
  intro h3
  have n1 := cmpS_neg a b
  have n2 := cmpS_neg b c
  have n3 := cmpS_neg a c
  by_cases e1 : cmpS a b = 0
  · rw [(cmpS_eq _ _).1 e1] at h3; exact h2 h3
  · by_cases e2 : cmpS b c = 0
    · rw [← (cmpS_eq _ _).1 e2] at h3; exact h1 h3
    · have := cmpS_tr c b a (by omega) (by omega)
      omega
end Go.Proofs.Ytoijcallajegfaa.M
end
section
/- A list of surfaces sorted, each once. No conditions. -/
namespace Go.Proofs.Ytoijcallajegfaa.M
set_option linter.unusedVariables false
set_option linter.unusedSimpArgs false
open Go.RowKit Go.Proofs.YtoijcallajegfaaW.PrintWords Go.Proofs.YtoijcallajegfaaW.PrintLast Go.Proofs.YtoijcallajegfaaW.PrintMore Go.Proofs.Ytoijcallajegfaa.A
def toN (x : S33) : List Nat × List Nat := (x.f0.map Int.toNat, x.f1.map Int.toNat)
def ofN (p : List Nat × List Nat) : S33 := ⟨I p.1, I p.2⟩
theorem toN_ofN (p : List Nat × List Nat) : toN (ofN p) = p := by
  have h : ∀ l : List Nat, (I l).map Int.toNat = l := fun l => by simp [I, List.map_map, Function.comp_def]
  exact Prod.ext (h p.1) (h p.2)
def NN (l : List Int) : Prop := (∀ a ∈ l, 0 ≤ a) ∧ l.length ≤ 1000000
instance (l : List Int) : Decidable (NN l) := inferInstanceAs (Decidable (_ ∧ _))
theorem NN_I {l : List Int} (h : NN l) : I (l.map Int.toNat) = l := by
  unfold I
  rw [List.map_map]
  conv => rhs; rw [← List.map_id l]
  apply List.map_congr_left
  intro x hx
  have := h.1 x hx
  exact Int.toNat_of_nonneg this
theorem I_NN {l : List Nat} (h : l.length ≤ 1000000) : NN (I l) := by
  refine ⟨fun a ha => ?_, by simpa [I] using h⟩
  obtain ⟨n, _, rfl⟩ := List.mem_map.1 ha
  exact Int.natCast_nonneg n
def okS (x : S33) : Prop := NN x.f0 ∧ NN x.f1
instance (x : S33) : Decidable (okS x) := inferInstanceAs (Decidable (_ ∧ _))
theorem okS_of {x : S33} (h : okS x) : ofN (toN x) = x := by
  show (⟨I (x.f0.map Int.toNat), I (x.f1.map Int.toNat)⟩ : S33) = x
  rw [NN_I h.1, NN_I h.2]
def sortS (l : List (List Nat × List Nat)) : List (List Nat × List Nat) := cpt (fun a b => decide (a = b)) (l.mergeSort (fun a b => decide (¬ cmpS b a < 0)))
theorem sort_uniq {l l' : List (List Nat × List Nat)} (hp : l'.Perm l) (hs : l'.Pairwise (fun a b => ¬ cmpS b a < 0)) : l' = l.mergeSort (fun a b => decide (¬ cmpS b a < 0)) := by
  refine List.Perm.eq_of_pairwise (le := fun a b => ¬ cmpS b a < 0) ?_ hs ?_ (hp.trans (List.mergeSort_perm l _).symm)
  · intro a b _ _ h1 h2
    have := cmpS_neg a b
    exact (cmpS_eq _ _).1 (by omega)
  · have := List.pairwise_mergeSort (le := fun a b => decide (¬ cmpS b a < 0)) (fun a b c h1 h2 => decide_eq_true (cmpS_le_tr c b a (of_decide_eq_true h2) (of_decide_eq_true h1))) (fun a b => by
      have := cmpS_neg a b
      simp only [Bool.or_eq_true, decide_eq_true_eq]
      omega) l
    exact this.imp (fun h => of_decide_eq_true h)
end Go.Proofs.Ytoijcallajegfaa.M
end
section
/- What comparing two surfaces leaves behind. No conditions. -/
namespace Go.Proofs.Ytoijcallajegfaa.M
set_option linter.unusedVariables false
set_option linter.unusedSimpArgs false
open Go Go.RowKit Go.Proofs.YtoijcallajegfaaW.PrintWords Go.Proofs.YtoijcallajegfaaW.PrintLast Go.Proofs.YtoijcallajegfaaW.PrintMore Go.Proofs.Ytoijcallajegfaa.A Go.Sort
def Ex (W w' : World) : Prop := ∃ q os', w' = grow (W.drewN q) os'
theorem Ex.refl (W : World) : Ex W W := ⟨0, #[], by rw [grow_empty]; rfl⟩
theorem Ex.alloc {W w' : World} (h : Ex W w') (o : Obj) : Ex W (w'.alloc o) := by
  obtain ⟨q, os, rfl⟩ := h
  exact ⟨q, os ++ #[o], by rw [alloc_eq_grow, grow_grow]⟩
theorem Ex.drewN {W w' : World} (h : Ex W w') (n : Nat) : Ex W (w'.drewN n) := by
  obtain ⟨q, os, rfl⟩ := h
  exact ⟨q + n, os, by rw [← World.drewN_drewN]; rfl⟩
theorem Ex.drew {W w' : World} (h : Ex W w') : Ex W w'.drew := h.drewN 1
theorem Ex.below {W w' : World} (h : Ex W w') : Go.RowKit.Below W.heap.size W w' := by
  obtain ⟨q, os, rfl⟩ := h
  refine ⟨rfl, rfl, rfl, ?_, fun k hk => ?_⟩
  · show W.heap.size ≤ (W.heap ++ os).size
    simp
  · show (W.heap ++ os)[k]? = _
    rw [Array.getElem?_append_left hk]
set_option maxHeartbeats 4000000 in
set_option maxRecDepth 100000 in
theorem cmp_exact (W : World) (x y : S33) (cx cy : List Value) (hx : okS x) (hy : okS y) (h1 : k33.K W x cx) (h2 : k33.K W y cy) :
    Calls Try.prog 60 #[.agg cx.toArray, .agg cy.toArray] W fun e w' => e = .returned (.int .i64 (cmpS (toN x) (toN y))) ∧ ∃ q os', w' = grow (W.drewN q) os' := by
  obtain ⟨A0, c0, A1, c1, rfl, l0, g0, l1, g1⟩ := k33_open h1
  obtain ⟨B0, d0, B1, d1, rfl, m0, e0, m1, e1⟩ := k33_open h2
  obtain ⟨ka, hka⟩ := compare_ev (toN x).1 (toN y).1 (by have := hx.1.2; simpa [toN] using this)
  obtain ⟨kb, hkb⟩ := compare_ev (toN x).2 (toN y).2 (by have := hx.2.2; simpa [toN] using this)
  have ha := hka ka (Nat.le_refl _)
  have hb := hkb kb (Nat.le_refl _)
  have ix0 : I (toN x).1 = x.f0 := NN_I hx.1
  have ix1 : I (toN x).2 = x.f1 := NN_I hx.2
  have iy0 : I (toN y).1 = y.f0 := NN_I hy.1
  have iy1 : I (toN y).2 = y.f1 := NN_I hy.2
  rw [ix0, iy0] at ha
  rw [ix1, iy1] at hb
  have HA : Aside (∀ w', Ex W w' → Calls Try.prog 54 #[.slice A0 x.f0.length c0, .slice B0 y.f0.length d0] w' fun e w2 => e = .returned (.int .i64 (lexC (toN x).1 (toN y).1)) ∧ ∃ n, w2 = w'.drewN n) := fun w' hw => (slices_Compare_int_int.calls ka A0 c0 x.f0 B0 d0 y.f0 _ w' (Kd.C_below g0 hw.below) l0 (Kd.C_below e0 hw.below) m0 ha).mono fun _ _ h => ⟨h.1, by obtain ⟨n, rfl⟩ := h.2; exact ⟨n, rfl⟩⟩
  have HB : Aside (∀ w', Ex W w' → Calls Try.prog 54 #[.slice A1 x.f1.length c1, .slice B1 y.f1.length d1] w' fun e w2 => e = .returned (.int .i64 (lexC (toN x).2 (toN y).2)) ∧ ∃ n, w2 = w'.drewN n) := fun w' hw => (slices_Compare_int_int.calls kb A1 c1 x.f1 B1 d1 y.f1 _ w' (Kd.C_below g1 hw.below) l1 (Kd.C_below e1 hw.below) m1 hb).mono fun _ _ h => ⟨h.1, by obtain ⟨n, rfl⟩ := h.2; exact ⟨n, rfl⟩⟩
  clear ha hb hka hkb ix0 ix1 iy0 iy1 g0 g1 e0 e1 l0 l1 m0 m1 hx hy h1 h2
  have hu := Try.underlying33
  unfold cmpS
  generalize lexC (toN x).1 (toN y).1 = ra at HA ⊢
  generalize lexC (toN x).2 (toN y).2 = rb at HB ⊢
  generalize x.f0.length = n0 at HA ⊢
  generalize x.f1.length = n1 at HB ⊢
  generalize y.f0.length = n2 at HA ⊢
  generalize y.f1.length = n3 at HB ⊢
  go_enter Try.func60, Try.ntmps60
  by_cases hr : ra = 0
  · subst hr
    have hr1 : ((0 : Int) != 0) = false := rfl
    go_wp2_with (first | (go_at_call 54; (with_reducible refine (HA.out _ ?side).mono ?_); (case side => repeat (first | (with_reducible exact Ex.refl _) | with_reducible apply Ex.alloc | with_reducible apply Ex.drewN | with_reducible apply Ex.drew)); rintro e w' ⟨rfl, n, rfl⟩) | (go_at_call 54; (with_reducible refine (HB.out _ ?side).mono ?_); (case side => repeat (first | (with_reducible exact Ex.refl _) | with_reducible apply Ex.alloc | with_reducible apply Ex.drewN | with_reducible apply Ex.drew)); rintro e w' ⟨rfl, n, rfl⟩))
    go_ret
    exact ⟨rfl, by show Ex W _; repeat (first | (with_reducible exact Ex.refl _) | with_reducible apply Ex.alloc | with_reducible apply Ex.drewN | with_reducible apply Ex.drew)⟩
  · have hr1 : (ra != 0) = true := bne_iff_ne.mpr hr
    have hr2 : (ra == 0) = false := beq_eq_false_iff_ne.mpr hr
    go_wp2_with (first | (go_at_call 54; (with_reducible refine (HA.out _ ?side).mono ?_); (case side => repeat (first | (with_reducible exact Ex.refl _) | with_reducible apply Ex.alloc | with_reducible apply Ex.drewN | with_reducible apply Ex.drew)); rintro e w' ⟨rfl, n, rfl⟩) | (go_at_call 54; (with_reducible refine (HB.out _ ?side).mono ?_); (case side => repeat (first | (with_reducible exact Ex.refl _) | with_reducible apply Ex.alloc | with_reducible apply Ex.drewN | with_reducible apply Ex.drew)); rintro e w' ⟨rfl, n, rfl⟩))
    go_ret
    exact ⟨rfl, by show Ex W _; repeat (first | (with_reducible exact Ex.refl _) | with_reducible apply Ex.alloc | with_reducible apply Ex.drewN | with_reducible apply Ex.drew)⟩
set_option maxHeartbeats 4000000 in
set_option maxRecDepth 100000 in
theorem same_exact (W : World) (x y : S33) (cx cy : List Value) (hx : okS x) (hy : okS y) (h1 : k33.K W x cx) (h2 : k33.K W y cy) :
    Calls Try.prog 18 #[.agg cx.toArray, .agg cy.toArray] W fun e w' => e = .returned (.bool (decide (toN x = toN y))) ∧ ∃ q os', w' = grow (W.drewN q) os' := by
  obtain ⟨A0, c0, A1, c1, rfl, l0, g0, l1, g1⟩ := k33_open h1
  obtain ⟨B0, d0, B1, d1, rfl, m0, e0, m1, e1⟩ := k33_open h2
  obtain ⟨ka, hka⟩ := equal_ev (toN x).1 (toN y).1 (by have := hx.1.2; simp [toN]; omega)
  obtain ⟨kb, hkb⟩ := equal_ev (toN x).2 (toN y).2 (by have := hx.2.2; simp [toN]; omega)
  have ha := hka ka (Nat.le_refl _)
  have hb := hkb kb (Nat.le_refl _)
  have ix0 : I (toN x).1 = x.f0 := NN_I hx.1
  have ix1 : I (toN x).2 = x.f1 := NN_I hx.2
  have iy0 : I (toN y).1 = y.f0 := NN_I hy.1
  have iy1 : I (toN y).2 = y.f1 := NN_I hy.2
  rw [ix0, iy0] at ha
  rw [ix1, iy1] at hb
  have hd : decide (toN x = toN y) = (if decide ((toN x).1 = (toN y).1) = true then decide ((toN x).2 = (toN y).2) else false) := by
    by_cases p : (toN x).1 = (toN y).1
    · by_cases q : (toN x).2 = (toN y).2
      · have e : toN x = toN y := Prod.ext p q
        simp [e]
      · have e : toN x ≠ toN y := fun e => q (by rw [e])
        simp [e, p, q]
    · have e : toN x ≠ toN y := fun e => p (by rw [e])
      simp [e, p]
  rw [hd]
  generalize decide ((toN x).1 = (toN y).1) = ra at ha ⊢
  generalize decide ((toN x).2 = (toN y).2) = rb at hb ⊢
  have HA : Aside (∀ w', Ex W w' → Calls Try.prog 56 #[.slice A0 x.f0.length c0, .slice B0 y.f0.length d0] w' fun e w2 => e = .returned (.bool ra) ∧ ∃ n, w2 = w'.drewN n) := fun w' hw => (impl_SameList.calls ka A0 c0 x.f0 B0 d0 y.f0 _ w' (Kd.C_below g0 hw.below) l0 (Kd.C_below e0 hw.below) m0 ha).mono fun _ _ h => ⟨h.1, by obtain ⟨n, rfl⟩ := h.2; exact ⟨n, rfl⟩⟩
  have HB : Aside (∀ w', Ex W w' → Calls Try.prog 56 #[.slice A1 x.f1.length c1, .slice B1 y.f1.length d1] w' fun e w2 => e = .returned (.bool rb) ∧ ∃ n, w2 = w'.drewN n) := fun w' hw => (impl_SameList.calls kb A1 c1 x.f1 B1 d1 y.f1 _ w' (Kd.C_below g1 hw.below) l1 (Kd.C_below e1 hw.below) m1 hb).mono fun _ _ h => ⟨h.1, by obtain ⟨n, rfl⟩ := h.2; exact ⟨n, rfl⟩⟩
  clear ha hb hka hkb ix0 ix1 iy0 iy1 g0 g1 e0 e1 l0 l1 m0 m1 hx hy h1 h2 hd
  have hu := Try.underlying33
  generalize x.f0.length = n0 at HA ⊢
  generalize x.f1.length = n1 at HB ⊢
  generalize y.f0.length = n2 at HA ⊢
  generalize y.f1.length = n3 at HB ⊢
  go_enter Try.func18, Try.ntmps18
  cases ra with
  | true =>
    go_wp2_with (first | (go_at_call 56; (with_reducible refine (HA.out _ ?side).mono ?_); (case side => repeat (first | (with_reducible exact Ex.refl _) | with_reducible apply Ex.alloc | with_reducible apply Ex.drewN | with_reducible apply Ex.drew)); rintro e w' ⟨rfl, n, rfl⟩) | (go_at_call 56; (with_reducible refine (HB.out _ ?side).mono ?_); (case side => repeat (first | (with_reducible exact Ex.refl _) | with_reducible apply Ex.alloc | with_reducible apply Ex.drewN | with_reducible apply Ex.drew)); rintro e w' ⟨rfl, n, rfl⟩))
    go_ret
    exact ⟨rfl, by show Ex W _; repeat (first | (with_reducible exact Ex.refl _) | with_reducible apply Ex.alloc | with_reducible apply Ex.drewN | with_reducible apply Ex.drew)⟩
  | false =>
    go_wp2_with (first | (go_at_call 56; (with_reducible refine (HA.out _ ?side).mono ?_); (case side => repeat (first | (with_reducible exact Ex.refl _) | with_reducible apply Ex.alloc | with_reducible apply Ex.drewN | with_reducible apply Ex.drew)); rintro e w' ⟨rfl, n, rfl⟩) | (go_at_call 56; (with_reducible refine (HB.out _ ?side).mono ?_); (case side => repeat (first | (with_reducible exact Ex.refl _) | with_reducible apply Ex.alloc | with_reducible apply Ex.drewN | with_reducible apply Ex.drew)); rintro e w' ⟨rfl, n, rfl⟩))
    go_ret
    exact ⟨rfl, by show Ex W _; repeat (first | (with_reducible exact Ex.refl _) | with_reducible apply Ex.alloc | with_reducible apply Ex.drewN | with_reducible apply Ex.drew)⟩
end Go.Proofs.Ytoijcallajegfaa.M
end
section
/- What the library's sort asks of this program: each by the kernel. No conditions. -/
namespace Go.Proofs
open Go.Shelf
def Try.sortA52_ren : Go.Shelf.Ren := ⟨fun | 6 => 52 | 15 => 104 | 14 => 103 | 28 => 147 | 29 => 148 | 20 => 139 | 21 => 140 | 22 => 141 | 23 => 142 | 24 => 143 | 25 => 144 | 26 => 145 | 27 => 146 | 46 => 178 | 47 => 179 | 48 => 180 | 49 => 181 | 50 => 182 | 57 => 192 | n => n, fun | 22 => 28 | 24 => 23 | 25 => 64 | 3 => 3 | 39 => 103 | 0 => 0 | 53 => 134 | 55 => 136 | 4 => 4 | 46 => 127 | 45 => 126 | 50 => 131 | 5 => 5 | 9 => 9 | 66 => 149 | 70 => 153 | 76 => 160 | 77 => 161 | n => n, fun | n => n⟩
theorem Try.sortA52 : Go.Proofs.SlLaysF.n6 Try.prog Try.sortA52_ren := {
  mixed := by kernel_rfl
  f6 := ⟨Try.f52.name, by decide, Try.func52.trans (congrArg some (by kernel_rfl))⟩
  f14 := ⟨Try.f103.name, by decide, Try.func103.trans (congrArg some (by kernel_rfl))⟩
  f15 := Try.func104.trans (congrArg some (by kernel_rfl))
  f20 := ⟨Try.f139.name, by decide, Try.func139.trans (congrArg some (by kernel_rfl))⟩
  f21 := ⟨Try.f140.name, by decide, Try.func140.trans (congrArg some (by kernel_rfl))⟩
  f22 := ⟨Try.f141.name, by decide, Try.func141.trans (congrArg some (by kernel_rfl))⟩
  f23 := ⟨Try.f142.name, by decide, Try.func142.trans (congrArg some (by kernel_rfl))⟩
  f24 := ⟨Try.f143.name, by decide, Try.func143.trans (congrArg some (by kernel_rfl))⟩
  f25 := ⟨Try.f144.name, by decide, Try.func144.trans (congrArg some (by kernel_rfl))⟩
  f26 := ⟨Try.f145.name, by decide, Try.func145.trans (congrArg some (by kernel_rfl))⟩
  f27 := ⟨Try.f146.name, by decide, Try.func146.trans (congrArg some (by kernel_rfl))⟩
  f28 := Try.func147.trans (congrArg some (by kernel_rfl))
  f29 := Try.func148.trans (congrArg some (by kernel_rfl))
  f46 := ⟨Try.f178.name, by decide, Try.func178.trans (congrArg some (by kernel_rfl))⟩
  f47 := Try.func179.trans (congrArg some (by kernel_rfl))
  f48 := Try.func180.trans (congrArg some (by kernel_rfl))
  f49 := ⟨Try.f181.name, by decide, Try.func181.trans (congrArg some (by kernel_rfl))⟩
  f50 := ⟨Try.f182.name, by decide, Try.func182.trans (congrArg some (by kernel_rfl))⟩
  f57 := ⟨Try.f192.name, by decide, Try.func192.trans (congrArg some (by kernel_rfl))⟩
  t0 := Try.underlying0
  a0 := Try.isAgg0
  z0 := Try.sizeOf0
  v0 := Try.zeroValue0
  t3 := Try.underlying3
  a3 := Try.isAgg3
  z3 := Try.sizeOf3
  v3 := Try.zeroValue3
  t4 := Try.underlying4
  a4 := Try.isAgg4
  z4 := Try.sizeOf4
  v4 := Try.zeroValue4
  t5 := Try.underlying5
  a5 := Try.isAgg5
  z5 := Try.sizeOf5
  v5 := Try.zeroValue5
  t9 := Try.underlying9
  a9 := Try.isAgg9
  z9 := Try.sizeOf9
  v9 := Try.zeroValue9
  t22 := Try.underlying28
  a22 := Try.isAgg28
  z22 := Try.sizeOf28
  v22 := Try.zeroValue28
  a24 := Try.isAgg23
  z24 := Try.sizeOf23
  t25 := Try.underlying64
  a25 := Try.isAgg64
  z25 := Try.sizeOf64
  v25 := Try.zeroValue64
  t39 := Try.underlying103
  a39 := Try.isAgg103
  z39 := Try.sizeOf103
  v39 := Try.zeroValue103
  t45 := Try.underlying126
  a45 := Try.isAgg126
  z45 := Try.sizeOf126
  v45 := Try.zeroValue126
  t46 := Try.underlying127
  a46 := Try.isAgg127
  z46 := Try.sizeOf127
  v46 := Try.zeroValue127
  t50 := Try.underlying131
  a50 := Try.isAgg131
  z50 := Try.sizeOf131
  v50 := Try.zeroValue131
  t53 := Try.underlying134
  a53 := Try.isAgg134
  z53 := Try.sizeOf134
  v53 := Try.zeroValue134
  t55 := Try.underlying136
  a55 := Try.isAgg136
  z55 := Try.sizeOf136
  v55 := Try.zeroValue136
  t66 := Try.underlying149
  a66 := Try.isAgg149
  z66 := Try.sizeOf149
  v66 := Try.zeroValue149
  t70 := Try.underlying153
  a70 := Try.isAgg153
  z70 := Try.sizeOf153
  v70 := Try.zeroValue153
  t76 := Try.underlying160
  a76 := Try.isAgg160
  z76 := Try.sizeOf160
  v76 := Try.zeroValue160
  t77 := Try.underlying161
  a77 := Try.isAgg161
  z77 := Try.sizeOf161
  v77 := Try.zeroValue161 }
def Try.sortB52_ren : Go.Shelf.Ren := ⟨fun | 6 => 52 | 15 => 104 | 14 => 103 | 28 => 147 | 29 => 148 | 20 => 139 | 21 => 140 | 22 => 141 | 23 => 142 | 24 => 143 | 25 => 144 | 26 => 145 | 27 => 146 | 46 => 178 | 47 => 179 | 48 => 180 | 49 => 181 | 50 => 182 | 57 => 192 | n => n, fun | 22 => 28 | 24 => 23 | 25 => 64 | 3 => 3 | 39 => 103 | 0 => 0 | 53 => 134 | 55 => 136 | 4 => 4 | 46 => 127 | 45 => 126 | 50 => 131 | 5 => 5 | 9 => 9 | 66 => 149 | 70 => 153 | 76 => 160 | 77 => 161 | n => n, fun | n => n⟩
theorem Try.sortB52 : Go.Proofs.SlLaysF0.n6 Try.prog Try.sortB52_ren := {
  mixed := by kernel_rfl
  f6 := ⟨Try.f52.name, by decide, Try.func52.trans (congrArg some (by kernel_rfl))⟩
  f14 := ⟨Try.f103.name, by decide, Try.func103.trans (congrArg some (by kernel_rfl))⟩
  f15 := Try.func104.trans (congrArg some (by kernel_rfl))
  f20 := ⟨Try.f139.name, by decide, Try.func139.trans (congrArg some (by kernel_rfl))⟩
  f21 := ⟨Try.f140.name, by decide, Try.func140.trans (congrArg some (by kernel_rfl))⟩
  f22 := ⟨Try.f141.name, by decide, Try.func141.trans (congrArg some (by kernel_rfl))⟩
  f23 := ⟨Try.f142.name, by decide, Try.func142.trans (congrArg some (by kernel_rfl))⟩
  f24 := ⟨Try.f143.name, by decide, Try.func143.trans (congrArg some (by kernel_rfl))⟩
  f25 := ⟨Try.f144.name, by decide, Try.func144.trans (congrArg some (by kernel_rfl))⟩
  f26 := ⟨Try.f145.name, by decide, Try.func145.trans (congrArg some (by kernel_rfl))⟩
  f27 := ⟨Try.f146.name, by decide, Try.func146.trans (congrArg some (by kernel_rfl))⟩
  f28 := Try.func147.trans (congrArg some (by kernel_rfl))
  f29 := Try.func148.trans (congrArg some (by kernel_rfl))
  f46 := ⟨Try.f178.name, by decide, Try.func178.trans (congrArg some (by kernel_rfl))⟩
  f47 := Try.func179.trans (congrArg some (by kernel_rfl))
  f48 := Try.func180.trans (congrArg some (by kernel_rfl))
  f49 := ⟨Try.f181.name, by decide, Try.func181.trans (congrArg some (by kernel_rfl))⟩
  f50 := ⟨Try.f182.name, by decide, Try.func182.trans (congrArg some (by kernel_rfl))⟩
  f57 := ⟨Try.f192.name, by decide, Try.func192.trans (congrArg some (by kernel_rfl))⟩
  t0 := Try.underlying0
  a0 := Try.isAgg0
  z0 := Try.sizeOf0
  v0 := Try.zeroValue0
  t3 := Try.underlying3
  a3 := Try.isAgg3
  z3 := Try.sizeOf3
  v3 := Try.zeroValue3
  t4 := Try.underlying4
  a4 := Try.isAgg4
  z4 := Try.sizeOf4
  v4 := Try.zeroValue4
  t5 := Try.underlying5
  a5 := Try.isAgg5
  z5 := Try.sizeOf5
  v5 := Try.zeroValue5
  t9 := Try.underlying9
  a9 := Try.isAgg9
  z9 := Try.sizeOf9
  v9 := Try.zeroValue9
  t22 := Try.underlying28
  a22 := Try.isAgg28
  z22 := Try.sizeOf28
  v22 := Try.zeroValue28
  t25 := Try.underlying64
  a25 := Try.isAgg64
  z25 := Try.sizeOf64
  v25 := Try.zeroValue64
  t39 := Try.underlying103
  a39 := Try.isAgg103
  z39 := Try.sizeOf103
  v39 := Try.zeroValue103
  t45 := Try.underlying126
  a45 := Try.isAgg126
  z45 := Try.sizeOf126
  v45 := Try.zeroValue126
  t46 := Try.underlying127
  a46 := Try.isAgg127
  z46 := Try.sizeOf127
  v46 := Try.zeroValue127
  t50 := Try.underlying131
  a50 := Try.isAgg131
  z50 := Try.sizeOf131
  v50 := Try.zeroValue131
  t53 := Try.underlying134
  a53 := Try.isAgg134
  z53 := Try.sizeOf134
  v53 := Try.zeroValue134
  t55 := Try.underlying136
  a55 := Try.isAgg136
  z55 := Try.sizeOf136
  v55 := Try.zeroValue136
  t66 := Try.underlying149
  a66 := Try.isAgg149
  z66 := Try.sizeOf149
  v66 := Try.zeroValue149
  t70 := Try.underlying153
  a70 := Try.isAgg153
  z70 := Try.sizeOf153
  v70 := Try.zeroValue153
  t76 := Try.underlying160
  a76 := Try.isAgg160
  z76 := Try.sizeOf160
  v76 := Try.zeroValue160
  t77 := Try.underlying161
  a77 := Try.isAgg161
  z77 := Try.sizeOf161
  v77 := Try.zeroValue161 }
def Try.sortA73_ren : Go.Shelf.Ren := ⟨fun | 6 => 73 | 15 => 104 | 14 => 121 | 28 => 147 | 29 => 148 | 20 => 153 | 21 => 154 | 22 => 155 | 23 => 156 | 24 => 157 | 25 => 158 | 26 => 159 | 27 => 160 | 46 => 184 | 47 => 179 | 48 => 180 | 49 => 185 | 50 => 186 | 57 => 193 | n => n, fun | 22 => 23 | 24 => 3 | 25 => 79 | 3 => 3 | 39 => 103 | 0 => 0 | 53 => 134 | 55 => 136 | 4 => 4 | 46 => 127 | 45 => 126 | 50 => 131 | 5 => 5 | 9 => 9 | 66 => 149 | 70 => 153 | 76 => 160 | 77 => 161 | n => n, fun | n => n⟩
theorem Try.sortA73 : Go.Proofs.SlLaysF.n6 Try.prog Try.sortA73_ren := {
  mixed := by kernel_rfl
  f6 := ⟨Try.f73.name, by decide, Try.func73.trans (congrArg some (by kernel_rfl))⟩
  f14 := ⟨Try.f121.name, by decide, Try.func121.trans (congrArg some (by kernel_rfl))⟩
  f15 := Try.func104.trans (congrArg some (by kernel_rfl))
  f20 := ⟨Try.f153.name, by decide, Try.func153.trans (congrArg some (by kernel_rfl))⟩
  f21 := ⟨Try.f154.name, by decide, Try.func154.trans (congrArg some (by kernel_rfl))⟩
  f22 := ⟨Try.f155.name, by decide, Try.func155.trans (congrArg some (by kernel_rfl))⟩
  f23 := ⟨Try.f156.name, by decide, Try.func156.trans (congrArg some (by kernel_rfl))⟩
  f24 := ⟨Try.f157.name, by decide, Try.func157.trans (congrArg some (by kernel_rfl))⟩
  f25 := ⟨Try.f158.name, by decide, Try.func158.trans (congrArg some (by kernel_rfl))⟩
  f26 := ⟨Try.f159.name, by decide, Try.func159.trans (congrArg some (by kernel_rfl))⟩
  f27 := ⟨Try.f160.name, by decide, Try.func160.trans (congrArg some (by kernel_rfl))⟩
  f28 := Try.func147.trans (congrArg some (by kernel_rfl))
  f29 := Try.func148.trans (congrArg some (by kernel_rfl))
  f46 := ⟨Try.f184.name, by decide, Try.func184.trans (congrArg some (by kernel_rfl))⟩
  f47 := Try.func179.trans (congrArg some (by kernel_rfl))
  f48 := Try.func180.trans (congrArg some (by kernel_rfl))
  f49 := ⟨Try.f185.name, by decide, Try.func185.trans (congrArg some (by kernel_rfl))⟩
  f50 := ⟨Try.f186.name, by decide, Try.func186.trans (congrArg some (by kernel_rfl))⟩
  f57 := ⟨Try.f193.name, by decide, Try.func193.trans (congrArg some (by kernel_rfl))⟩
  t0 := Try.underlying0
  a0 := Try.isAgg0
  z0 := Try.sizeOf0
  v0 := Try.zeroValue0
  t3 := Try.underlying3
  a3 := Try.isAgg3
  z3 := Try.sizeOf3
  v3 := Try.zeroValue3
  t4 := Try.underlying4
  a4 := Try.isAgg4
  z4 := Try.sizeOf4
  v4 := Try.zeroValue4
  t5 := Try.underlying5
  a5 := Try.isAgg5
  z5 := Try.sizeOf5
  v5 := Try.zeroValue5
  t9 := Try.underlying9
  a9 := Try.isAgg9
  z9 := Try.sizeOf9
  v9 := Try.zeroValue9
  t22 := Try.underlying23
  a22 := Try.isAgg23
  z22 := Try.sizeOf23
  v22 := Try.zeroValue23
  a24 := Try.isAgg3
  z24 := Try.sizeOf3
  t25 := Try.underlying79
  a25 := Try.isAgg79
  z25 := Try.sizeOf79
  v25 := Try.zeroValue79
  t39 := Try.underlying103
  a39 := Try.isAgg103
  z39 := Try.sizeOf103
  v39 := Try.zeroValue103
  t45 := Try.underlying126
  a45 := Try.isAgg126
  z45 := Try.sizeOf126
  v45 := Try.zeroValue126
  t46 := Try.underlying127
  a46 := Try.isAgg127
  z46 := Try.sizeOf127
  v46 := Try.zeroValue127
  t50 := Try.underlying131
  a50 := Try.isAgg131
  z50 := Try.sizeOf131
  v50 := Try.zeroValue131
  t53 := Try.underlying134
  a53 := Try.isAgg134
  z53 := Try.sizeOf134
  v53 := Try.zeroValue134
  t55 := Try.underlying136
  a55 := Try.isAgg136
  z55 := Try.sizeOf136
  v55 := Try.zeroValue136
  t66 := Try.underlying149
  a66 := Try.isAgg149
  z66 := Try.sizeOf149
  v66 := Try.zeroValue149
  t70 := Try.underlying153
  a70 := Try.isAgg153
  z70 := Try.sizeOf153
  v70 := Try.zeroValue153
  t76 := Try.underlying160
  a76 := Try.isAgg160
  z76 := Try.sizeOf160
  v76 := Try.zeroValue160
  t77 := Try.underlying161
  a77 := Try.isAgg161
  z77 := Try.sizeOf161
  v77 := Try.zeroValue161 }
def Try.sortB73_ren : Go.Shelf.Ren := ⟨fun | 6 => 73 | 15 => 104 | 14 => 121 | 28 => 147 | 29 => 148 | 20 => 153 | 21 => 154 | 22 => 155 | 23 => 156 | 24 => 157 | 25 => 158 | 26 => 159 | 27 => 160 | 46 => 184 | 47 => 179 | 48 => 180 | 49 => 185 | 50 => 186 | 57 => 193 | n => n, fun | 22 => 23 | 24 => 3 | 25 => 79 | 3 => 3 | 39 => 103 | 0 => 0 | 53 => 134 | 55 => 136 | 4 => 4 | 46 => 127 | 45 => 126 | 50 => 131 | 5 => 5 | 9 => 9 | 66 => 149 | 70 => 153 | 76 => 160 | 77 => 161 | n => n, fun | n => n⟩
theorem Try.sortB73 : Go.Proofs.SlLaysF0.n6 Try.prog Try.sortB73_ren := {
  mixed := by kernel_rfl
  f6 := ⟨Try.f73.name, by decide, Try.func73.trans (congrArg some (by kernel_rfl))⟩
  f14 := ⟨Try.f121.name, by decide, Try.func121.trans (congrArg some (by kernel_rfl))⟩
  f15 := Try.func104.trans (congrArg some (by kernel_rfl))
  f20 := ⟨Try.f153.name, by decide, Try.func153.trans (congrArg some (by kernel_rfl))⟩
  f21 := ⟨Try.f154.name, by decide, Try.func154.trans (congrArg some (by kernel_rfl))⟩
  f22 := ⟨Try.f155.name, by decide, Try.func155.trans (congrArg some (by kernel_rfl))⟩
  f23 := ⟨Try.f156.name, by decide, Try.func156.trans (congrArg some (by kernel_rfl))⟩
  f24 := ⟨Try.f157.name, by decide, Try.func157.trans (congrArg some (by kernel_rfl))⟩
  f25 := ⟨Try.f158.name, by decide, Try.func158.trans (congrArg some (by kernel_rfl))⟩
  f26 := ⟨Try.f159.name, by decide, Try.func159.trans (congrArg some (by kernel_rfl))⟩
  f27 := ⟨Try.f160.name, by decide, Try.func160.trans (congrArg some (by kernel_rfl))⟩
  f28 := Try.func147.trans (congrArg some (by kernel_rfl))
  f29 := Try.func148.trans (congrArg some (by kernel_rfl))
  f46 := ⟨Try.f184.name, by decide, Try.func184.trans (congrArg some (by kernel_rfl))⟩
  f47 := Try.func179.trans (congrArg some (by kernel_rfl))
  f48 := Try.func180.trans (congrArg some (by kernel_rfl))
  f49 := ⟨Try.f185.name, by decide, Try.func185.trans (congrArg some (by kernel_rfl))⟩
  f50 := ⟨Try.f186.name, by decide, Try.func186.trans (congrArg some (by kernel_rfl))⟩
  f57 := ⟨Try.f193.name, by decide, Try.func193.trans (congrArg some (by kernel_rfl))⟩
  t0 := Try.underlying0
  a0 := Try.isAgg0
  z0 := Try.sizeOf0
  v0 := Try.zeroValue0
  t3 := Try.underlying3
  a3 := Try.isAgg3
  z3 := Try.sizeOf3
  v3 := Try.zeroValue3
  t4 := Try.underlying4
  a4 := Try.isAgg4
  z4 := Try.sizeOf4
  v4 := Try.zeroValue4
  t5 := Try.underlying5
  a5 := Try.isAgg5
  z5 := Try.sizeOf5
  v5 := Try.zeroValue5
  t9 := Try.underlying9
  a9 := Try.isAgg9
  z9 := Try.sizeOf9
  v9 := Try.zeroValue9
  t22 := Try.underlying23
  a22 := Try.isAgg23
  z22 := Try.sizeOf23
  v22 := Try.zeroValue23
  t25 := Try.underlying79
  a25 := Try.isAgg79
  z25 := Try.sizeOf79
  v25 := Try.zeroValue79
  t39 := Try.underlying103
  a39 := Try.isAgg103
  z39 := Try.sizeOf103
  v39 := Try.zeroValue103
  t45 := Try.underlying126
  a45 := Try.isAgg126
  z45 := Try.sizeOf126
  v45 := Try.zeroValue126
  t46 := Try.underlying127
  a46 := Try.isAgg127
  z46 := Try.sizeOf127
  v46 := Try.zeroValue127
  t50 := Try.underlying131
  a50 := Try.isAgg131
  z50 := Try.sizeOf131
  v50 := Try.zeroValue131
  t53 := Try.underlying134
  a53 := Try.isAgg134
  z53 := Try.sizeOf134
  v53 := Try.zeroValue134
  t55 := Try.underlying136
  a55 := Try.isAgg136
  z55 := Try.sizeOf136
  v55 := Try.zeroValue136
  t66 := Try.underlying149
  a66 := Try.isAgg149
  z66 := Try.sizeOf149
  v66 := Try.zeroValue149
  t70 := Try.underlying153
  a70 := Try.isAgg153
  z70 := Try.sizeOf153
  v70 := Try.zeroValue153
  t76 := Try.underlying160
  a76 := Try.isAgg160
  z76 := Try.sizeOf160
  v76 := Try.zeroValue160
  t77 := Try.underlying161
  a77 := Try.isAgg161
  z77 := Try.sizeOf161
  v77 := Try.zeroValue161 }
def Try.sortB101_ren : Go.Shelf.Ren := ⟨fun | 6 => 101 | 15 => 104 | 14 => 138 | 28 => 147 | 29 => 148 | 20 => 170 | 21 => 171 | 22 => 172 | 23 => 173 | 24 => 174 | 25 => 175 | 26 => 176 | 27 => 177 | 46 => 189 | 47 => 179 | 48 => 180 | 49 => 190 | 50 => 191 | 57 => 197 | n => n, fun | 22 => 25 | 24 => 33 | 25 => 69 | 3 => 3 | 39 => 103 | 0 => 0 | 53 => 134 | 55 => 136 | 4 => 4 | 46 => 127 | 45 => 126 | 50 => 131 | 5 => 5 | 9 => 9 | 66 => 149 | 70 => 153 | 76 => 160 | 77 => 161 | n => n, fun | n => n⟩
theorem Try.sortB101 : Go.Proofs.SlLaysF0.n6 Try.prog Try.sortB101_ren := {
  mixed := by kernel_rfl
  f6 := ⟨Try.f101.name, by decide, Try.func101.trans (congrArg some (by kernel_rfl))⟩
  f14 := ⟨Try.f138.name, by decide, Try.func138.trans (congrArg some (by kernel_rfl))⟩
  f15 := Try.func104.trans (congrArg some (by kernel_rfl))
  f20 := ⟨Try.f170.name, by decide, Try.func170.trans (congrArg some (by kernel_rfl))⟩
  f21 := ⟨Try.f171.name, by decide, Try.func171.trans (congrArg some (by kernel_rfl))⟩
  f22 := ⟨Try.f172.name, by decide, Try.func172.trans (congrArg some (by kernel_rfl))⟩
  f23 := ⟨Try.f173.name, by decide, Try.func173.trans (congrArg some (by kernel_rfl))⟩
  f24 := ⟨Try.f174.name, by decide, Try.func174.trans (congrArg some (by kernel_rfl))⟩
  f25 := ⟨Try.f175.name, by decide, Try.func175.trans (congrArg some (by kernel_rfl))⟩
  f26 := ⟨Try.f176.name, by decide, Try.func176.trans (congrArg some (by kernel_rfl))⟩
  f27 := ⟨Try.f177.name, by decide, Try.func177.trans (congrArg some (by kernel_rfl))⟩
  f28 := Try.func147.trans (congrArg some (by kernel_rfl))
  f29 := Try.func148.trans (congrArg some (by kernel_rfl))
  f46 := ⟨Try.f189.name, by decide, Try.func189.trans (congrArg some (by kernel_rfl))⟩
  f47 := Try.func179.trans (congrArg some (by kernel_rfl))
  f48 := Try.func180.trans (congrArg some (by kernel_rfl))
  f49 := ⟨Try.f190.name, by decide, Try.func190.trans (congrArg some (by kernel_rfl))⟩
  f50 := ⟨Try.f191.name, by decide, Try.func191.trans (congrArg some (by kernel_rfl))⟩
  f57 := ⟨Try.f197.name, by decide, Try.func197.trans (congrArg some (by kernel_rfl))⟩
  t0 := Try.underlying0
  a0 := Try.isAgg0
  z0 := Try.sizeOf0
  v0 := Try.zeroValue0
  t3 := Try.underlying3
  a3 := Try.isAgg3
  z3 := Try.sizeOf3
  v3 := Try.zeroValue3
  t4 := Try.underlying4
  a4 := Try.isAgg4
  z4 := Try.sizeOf4
  v4 := Try.zeroValue4
  t5 := Try.underlying5
  a5 := Try.isAgg5
  z5 := Try.sizeOf5
  v5 := Try.zeroValue5
  t9 := Try.underlying9
  a9 := Try.isAgg9
  z9 := Try.sizeOf9
  v9 := Try.zeroValue9
  t22 := Try.underlying25
  a22 := Try.isAgg25
  z22 := Try.sizeOf25
  v22 := Try.zeroValue25
  t25 := Try.underlying69
  a25 := Try.isAgg69
  z25 := Try.sizeOf69
  v25 := Try.zeroValue69
  t39 := Try.underlying103
  a39 := Try.isAgg103
  z39 := Try.sizeOf103
  v39 := Try.zeroValue103
  t45 := Try.underlying126
  a45 := Try.isAgg126
  z45 := Try.sizeOf126
  v45 := Try.zeroValue126
  t46 := Try.underlying127
  a46 := Try.isAgg127
  z46 := Try.sizeOf127
  v46 := Try.zeroValue127
  t50 := Try.underlying131
  a50 := Try.isAgg131
  z50 := Try.sizeOf131
  v50 := Try.zeroValue131
  t53 := Try.underlying134
  a53 := Try.isAgg134
  z53 := Try.sizeOf134
  v53 := Try.zeroValue134
  t55 := Try.underlying136
  a55 := Try.isAgg136
  z55 := Try.sizeOf136
  v55 := Try.zeroValue136
  t66 := Try.underlying149
  a66 := Try.isAgg149
  z66 := Try.sizeOf149
  v66 := Try.zeroValue149
  t70 := Try.underlying153
  a70 := Try.isAgg153
  z70 := Try.sizeOf153
  v70 := Try.zeroValue153
  t76 := Try.underlying160
  a76 := Try.isAgg160
  z76 := Try.sizeOf160
  v76 := Try.zeroValue160
  t77 := Try.underlying161
  a77 := Try.isAgg161
  z77 := Try.sizeOf161
  v77 := Try.zeroValue161 }
end Go.Proofs
end
section
/- A list of surfaces of the call's own sorted and struck of doubles: what lies in memory. No conditions. -/
namespace Go.Proofs.Ytoijcallajegfaa.M
set_option linter.unusedVariables false
set_option linter.unusedSimpArgs false
open Go Go.RowKit Go.Proofs.YtoijcallajegfaaW.PrintWords Go.Proofs.YtoijcallajegfaaW.PrintLast Go.Proofs.YtoijcallajegfaaW.PrintMore Go.Proofs.Ytoijcallajegfaa.A Go.Sort Go.Shelf Go.Lib Go.Proofs Go.Proofs.YtoijcallajegfaaW.PrintWords.Kd
theorem holds_cels {α : Type} {d : Kd α} {Q : α → Prop} {w : World} {base e g : Nat} {ok : Nat → Prop} [Inhabited (Cel d Q w base ok)] {cur : Array Value} {n : Nat} {l : List (Cel d Q w base ok)} (hg : w.heap[g]? = some (.cells cur e (0, 0))) (hll : l.length = n) (hc : n * d.sz ≤ cur.size) (hl : cur.toList.take (n * d.sz) = (l.map (·.c)).flatten) :
    HoldsK (fun z : Cel d Q w base ok => z.c) d.sz w g 0 l.toArray := by
  have hFl := flatK_list (d := d) (Q := Q) (w := w) (ok := ok) l.toArray
  have hFs : (flatK (fun z : Cel d Q w base ok => z.c) d.sz l.toArray).size = n * d.sz := by rw [size_flatK]; simp [hll]
  intro j hj
  rw [hFs] at hj
  have h1 : cur[j]? = (flatK (fun z : Cel d Q w base ok => z.c) d.sz l.toArray)[j]? := by
    rw [← Array.getElem?_toList, ← Array.getElem?_toList, hFl]
    show _ = (List.map _ l).flatten[j]?
    rw [← hl, List.getElem?_take, if_pos hj]
  refine ⟨?_, ?_⟩
  · show w.cell? ⟨g, 0 + j, none⟩ = _
    rw [Nat.zero_add, getElem!_pos _ j (by rw [hFs]; exact hj)]
    simp only [World.cell?, hg, Option.isSome_none, Bool.false_eq_true, if_false]
    rw [h1, Array.getElem?_eq_getElem (by rw [hFs]; exact hj)]
    rfl
  · simp [World.frozen?, hg]
set_option maxHeartbeats 4000000 in
set_option maxRecDepth 100000 in
theorem comp_none (A : Option Addr) (c : Nat) (fv : Value) (w : World) : Calls Try.prog 102 #[.slice A 0 c, fv] w fun e w' => e = .returned (.slice A 0 c) ∧ w' = w := by
  go_enter Try.func102, Try.ntmps102
  go_wp2
  go_ret
  exact ⟨rfl, rfl⟩
def eqS (x y : S33) : Bool := decide (toN x = toN y)
theorem comp_T {w : World} {base : Nat} {ok : Nat → Prop} {v : Value} {f : Nat → Nat} {xs : List (S33 × Nat)} (h : (Kd.tag f k33).R 33 w base ok v xs) (hq : ∀ x ∈ xs, okS x.1) (hsz : xs.length < 4611686018427387904) :
    Calls Try.prog 102 #[v, .func (.func 18) #[] #[]] w fun e w' => ∃ v', e = .returned v' ∧ CompactTo (Kd.tag f k33) (fun p q : S33 × Nat => eqS p.1 q.1) 33 w w' base ok v v' xs := by
  rcases Nat.eq_zero_or_pos xs.length with h0 | hp
  · have hx : xs = [] := List.length_eq_zero_iff.1 h0
    subst hx
    obtain ⟨A, c, rfl⟩ := Kd.R_slice h
    exact (comp_none A c _ w).mono fun _ _ ⟨he, hw⟩ => ⟨_, he, by rw [hw]; exact ⟨h, Kept.refl _ _, Go.RowKit.Below.refl _ _⟩⟩
  · obtain ⟨g, cap, cur, rfl, hg0, hb, hgl, hg, hn, hm, hcs, l, hl1, hl2⟩ := R_cells h hq hp
    have hll : l.length = xs.length := by rw [← hl1, List.length_map]
    haveI : Inhabited (Cel (Kd.tag f k33) (fun p : S33 × Nat => okS p.1) w base (fun k => ok k ∧ k ≠ g)) := ⟨l[0]'(by omega)⟩
    have hcs' : xs.length * (Kd.tag f k33).sz ≤ cur.size := by rw [hcs]; exact Nat.mul_le_mul_right _ hn
    have hcs2 : xs.length * 2 ≤ cur.size := hcs'
    have hH := holds_cels hg hll hcs' hl2
    have R : RowK (fun z : Cel (Kd.tag f k33) (fun p : S33 × Nat => okS p.1) w base (fun k => ok k ∧ k ≠ g) => z.c) 2 w g 0 l.toArray := ⟨fun z => z.len, fun z => z.one, hH, hgl⟩
    have key := compact_walk (fun z : Cel (Kd.tag f k33) (fun p : S33 × Nat => okS p.1) w base (fun k => ok k ∧ k ≠ g) => z.c) (fun p q => eqS p.x.1 q.x.1) 18 g 0 cap l.toArray w R (enters_of Try.func18 (by kernel_rfl) rfl)
      (fun W hW p q => by
        obtain ⟨dk, hs, m, os, rfl⟩ := hW
        have hh : ∀ (z : Cel (Kd.tag f k33) (fun p : S33 × Nat => okS p.1) w base (fun k => ok k ∧ k ≠ g)), (k33).K (sortWorldK (fun z : Cel (Kd.tag f k33) (fun p : S33 × Nat => okS p.1) w base (fun k => ok k ∧ k ≠ g) => z.c) 2 w g 0 m dk os) z.x.1 z.c := fun z => (k33).K_of_M (z.move (fun k hk hlt => (row_after hg (F := flatK (fun z : Cel (Kd.tag f k33) (fun p : S33 × Nat => okS p.1) w base (fun k => ok k ∧ k ≠ g) => z.c) 2 dk) (by rw [size_flatK, hs]; simpa [hll] using hcs2) rfl).2.1 k hk.2 hlt))
        exact same_exact _ p.x.1 q.x.1 p.c q.c p.q q.q (hh p) (hh q)) (by simpa [hll] using hp) (by simpa [hll] using hsz) (by simpa [hll] using hn)
    have hsz' : l.toArray.size = xs.length := by simp [hll]
    rw [hsz'] at key
    refine key.mono ?_
    rintro e' w' ⟨kk, rfl, dk, W, hC, ⟨n, os, hW⟩, hw⟩
    refine ⟨_, rfl, ?_⟩
    rw [← hsz'] at hC
    refine compR_of (D := l.toArray) (dk := dk) (F := flatK (fun z : Cel (Kd.tag f k33) (fun p : S33 × Nat => okS p.1) w base (fun k => ok k ∧ k ≠ g) => z.c) 2 dk) (m := n) (os := os) (W := W) (kk := kk) hC (by simpa using hl1) (flatK_list dk) hW ?_ hg0 hb hgl hg hn hm hcs
    rcases hw with rfl | ⟨vs, rfl⟩
    · exact .inl rfl
    · refine .inr ⟨vs, ?_⟩
      rw [Nat.zero_add]; rfl
theorem comp_S {w : World} {base : Nat} {ok : Nat → Prop} {v : Value} {xs : List S33} (h : Kd.S k33 33 w base ok v xs) (hq : ∀ x ∈ xs, okS x) (hsz : xs.length < 4611686018427387904) :
    Calls Try.prog 102 #[v, .func (.func 18) #[] #[]] w fun e w' => ∃ v', e = .returned v' ∧ Kd.S k33 33 w' base ok v' (cpt eqS xs) ∧ Kept w w' (fun k => some k = v.ownBlock) ∧ Go.RowKit.Below base w w' := by
  obtain ⟨f, hr⟩ := h
  refine (comp_T hr (zip_all hq) (by rw [List.length_zipIdx]; exact hsz)).mono ?_
  rintro e w' ⟨v', he, h1, h2, h3⟩
  refine ⟨v', he, ?_, h2, h3⟩
  have h4 := S_of_tag h1 (((cpt_sub _ xs.zipIdx).map (·.2)).nodup (zip_nodup xs))
  have h5 := cpt_map (fun p : S33 × Nat => p.1) eqS xs.zipIdx
  rw [zip_fst] at h5
  rw [h5] at h4
  exact h4
theorem ordS : Ord3 okS (fun x y : S33 => cmpS (toN x) (toN y)) where
  irr x _ := by rw [(cmpS_eq _ _).2 rfl]; omega
  tr x y z _ _ _ h1 h2 := cmpS_tr _ _ _ h1 h2
  nt x y z _ _ _ h1 h2 := cmpS_le_tr _ _ _ h1 h2
end Go.Proofs.Ytoijcallajegfaa.M
end
section
namespace Go.Proofs.Ytoijcallajegfaa.A
open Go.RowKit Go.Proofs.YtoijcallajegfaaW.PrintWords Go.Proofs.YtoijcallajegfaaW.PrintLast Go.Proofs.YtoijcallajegfaaW.PrintMore
attribute [local go_sem] max2_int min2_int max_two min_two max_three min_three max_four min_four
set_option linter.unusedVariables false
set_option linter.unusedSimpArgs false
def impl_sortSurfaces.f (l0 : List S33) : Option (List S33) := if (∀ x ∈ l0, M.okS x) ∧ l0.length < 4611686018427387904 then some ((M.sortS (l0.map M.toN)).map M.ofN) else none
theorem impl_sortSurfaces.eq (l xs' : List S33) (hq : ∀ x ∈ l, M.okS x) (hp : xs'.Perm l) (hs : xs'.Pairwise (fun a b => ¬ M.cmpS (M.toN b) (M.toN a) < 0)) : M.cpt M.eqS xs' = (M.sortS (l.map M.toN)).map M.ofN := by
  have h1 : xs'.map M.toN = (l.map M.toN).mergeSort (fun a b => decide (¬ M.cmpS b a < 0)) := M.sort_uniq (hp.map _) (by rw [List.pairwise_map]; exact hs)
  have h2 : (M.cpt M.eqS xs').map M.toN = M.cpt (fun a b => decide (a = b)) (xs'.map M.toN) := M.cpt_map M.toN (fun a b => decide (a = b)) xs'
  have h3 : ((M.cpt M.eqS xs').map M.toN).map M.ofN = M.cpt M.eqS xs' := by
    rw [List.map_map]
    conv => rhs; rw [← List.map_id (M.cpt M.eqS xs')]
    apply List.map_congr_left
    intro x hx
    exact M.okS_of (hq x (hp.mem_iff.1 ((M.cpt_sub M.eqS xs').subset hx)))
  rw [← h3, h2, h1]
  rfl
set_option maxHeartbeats 8000000 in
set_option maxRecDepth 100000 in
theorem impl_sortSurfaces.callsS (P0_ : Nat → Prop) (u9000_ : Value) (l0 : List S33) (r : List S33) (w0 w : World) (hB : Below w0.heap.size w0 w) (ho0 : Kd.S k33 33 w w0.heap.size P0_ u9000_ l0) (h : impl_sortSurfaces.f l0 = some r) :
    Calls Try.prog 51 #[u9000_] w fun e w' => ∃ v0_ : Value, e = .returned v0_ ∧ Kd.S k33 33 w' w0.heap.size P0_ v0_ r ∧ Below w0.heap.size w0 w' ∧ Kept w w' (fun k => some k = u9000_.ownBlock) := by
  unfold impl_sortSurfaces.f at h
  split at h
  · rename_i hq
    obtain rfl := Option.some.inj h
    have HV : ∃ A c, u9000_ = .slice A l0.length c := Kd.R_slice (Kd.S_R ho0)
    obtain ⟨f_, hr_⟩ := ho0
    have hs1 := (M.sortN (d := Kd.tag f_ k33) (Q := fun p : S33 × Nat => M.okS p.1) (cf := fun p q : S33 × Nat => M.cmpS (M.toN p.1) (M.toN q.1)) Try.sortB101 Try.isAgg33 Try.sizeOf33 M.ordS.fst 60 (enters_of Try.func60 (by kernel_rfl) rfl)
      (fun W x y cx cy hx hy h1 h2 => M.cmp_exact W x.1 y.1 cx cy hx hy h1 h2) hr_ (M.zip_all hq.1) (by rw [List.length_zipIdx]; exact hq.2))
    have hs0 : Calls Try.prog _ _ w fun e' w' => e' = .returned (.tuple #[]) ∧ M.SortedToS k33 (fun x y : S33 => M.cmpS (M.toN x) (M.toN y)) 33 w w' w0.heap.size P0_ u9000_ l0 := hs1.mono (fun e w2 h => ⟨h.1, M.sortedS_of (cf := fun x y : S33 => M.cmpS (M.toN x) (M.toN y)) h.2⟩)
    clear hs1
    change Calls Try.prog 101 _ _ _ at hs0
    have HS := Aside0.mk hs0
    clear hs0
    have HL := Aside0.mk (show ∀ xs' : List S33, xs'.Perm l0 → (∀ x ∈ xs', M.okS x) ∧ xs'.length < 4611686018427387904 from fun xs' hp => ⟨fun x hx => hq.1 x (hp.mem_iff.1 hx), by rw [hp.length_eq]; exact hq.2⟩)
    have HQ := Aside0.mk hq.1
    have HB := Aside0.mk hB
    clear hq hr_ h hB
    obtain ⟨Av, cv, rfl⟩ := HV
    generalize l0.length = nv at HS ⊢
    go_enter Try.func51, Try.ntmps51
    go_wp2_with (first | (go_at_call 101; (with_reducible refine HS.out.mono ?_); rintro e w1 ⟨rfl, xs', hp, hs, hN, hK, hB1⟩; have HP := Aside0.mk hp; have HO := Aside0.mk hs; have HN := Aside0.mk hN; have HK := Aside0.mk hK; have HB1 := Aside0.mk hB1; clear hp hs hN hK hB1) | (go_at_call 102; (refine (M.comp_S HN.out (HL.out xs' HP.out).1 (HL.out xs' HP.out).2).mono ?_); rintro e w2 ⟨v', rfl, hC, hK2, hB2⟩; have HC := Aside0.mk hC; have HK2 := Aside0.mk hK2; have HB2 := Aside0.mk hB2; clear hC hK2 hB2))
    go_ret
    refine ⟨_, rfl, ?_, HB.out.trans (HB1.out.trans HB2.out), ⟨Nat.le_trans HK.out.1 HK2.out.1, fun i hi hn => (HK2.out.2 i (Nat.lt_of_lt_of_le hi HK.out.1) hn).trans (HK.out.2 i hi hn)⟩⟩
    rw [← impl_sortSurfaces.eq l0 xs' HQ.out HP.out (HO.out.imp (fun h => by omega))]
    exact HC.out
  · cases h
end Go.Proofs.Ytoijcallajegfaa.A
end
section
namespace Go.Proofs.Ytoijcallajegfaa.A
open Go.RowKit Go.Proofs.YtoijcallajegfaaW.PrintWords Go.Proofs.YtoijcallajegfaaW.PrintLast Go.Proofs.YtoijcallajegfaaW.PrintMore
attribute [local go_sem] max2_int min2_int max_two min_two max_three min_three max_four min_four
set_option linter.unusedVariables false
set_option linter.unusedSimpArgs false
mutual
def impl_SurfacesWith.j0 : Nat → Int → Bool → Option ((List (S33)))
  | 0, _, _ => none
  | k + 1, x0, x15 => if x15 = true then (some ([] : List (S33))) else ((impl_allPerms.f k x0).bind fun t268 => (impl_SurfacesWith.l0 k x0 (([] : List (S33))) t268 (t268.length : Int) 0))
def impl_SurfacesWith.l0 : Nat → Int → List (S33) → List (List Int) → Int → Int → Option ((List (S33)))
  | 0, _, _, _, _, _ => none
  | k + 1, x0, x3, x18, x19, x20 => if x20 < x19 then (if 0 ≤ x20 then (if x20 < (x18.length : Int) then ((impl_allPerms.f k x0).bind fun t275 => (impl_SurfacesWith.l1 k x0 x3 (rd_L5 x18 x20) x18 x19 x20 t275 (t275.length : Int) 0)) else (none)) else (none)) else ((impl_sortSurfaces.f x3).bind fun t271 => (some t271))
def impl_SurfacesWith.l1 : Nat → Int → List (S33) → List Int → List (List Int) → Int → Int → List (List Int) → Int → Int → Option ((List (S33)))
  | 0, _, _, _, _, _, _, _, _, _ => none
  | k + 1, x0, x3, x5, x18, x19, x20, x25, x26, x27 => if x27 < x26 then (if 0 ≤ x27 then (if x27 < (x25.length : Int) then ((impl_CanonOf.f k x5 (rd_L5 x25 x27)).bind fun bt279 => (if bt279.2.2 = true then (if x3.length < 2932031007402 then (impl_SurfacesWith.l1 k x0 (x3 ++ [(⟨bt279.1, bt279.2.1⟩ : S33)]) x5 x18 x19 x20 x25 x26 (wrap64 (x27 + 1))) else (none)) else (impl_SurfacesWith.l1 k x0 x3 x5 x18 x19 x20 x25 x26 (wrap64 (x27 + 1))))) else (none)) else (none)) else (impl_SurfacesWith.l0 k x0 x3 x18 x19 (wrap64 (x20 + 1)))
end
def impl_SurfacesWith.f (k : Nat) (a0 : Int) : Option ((List (S33))) := if a0 < 1 then (impl_SurfacesWith.j0 k a0 true) else (impl_SurfacesWith.j0 k a0 (decide (a0 > 4)))
theorem impl_SurfacesWith.mono_l : ∀ k, (∀ y0 y1, LeO (impl_SurfacesWith.j0 k y0 y1) (impl_SurfacesWith.j0 (k + 1) y0 y1)) ∧ (∀ y0 y1 y2 y3 y4, LeO (impl_SurfacesWith.l0 k y0 y1 y2 y3 y4) (impl_SurfacesWith.l0 (k + 1) y0 y1 y2 y3 y4)) ∧ (∀ y0 y1 y2 y3 y4 y5 y6 y7 y8, LeO (impl_SurfacesWith.l1 k y0 y1 y2 y3 y4 y5 y6 y7 y8) (impl_SurfacesWith.l1 (k + 1) y0 y1 y2 y3 y4 y5 y6 y7 y8))
  | 0 => ⟨fun _ _ r h => by simp [impl_SurfacesWith.j0] at h, fun _ _ _ _ _ r h => by simp [impl_SurfacesWith.l0] at h, fun _ _ _ _ _ _ _ _ _ r h => by simp [impl_SurfacesWith.l1] at h⟩
  | k + 1 => by
    obtain ⟨ih0, ih1, ih2⟩ := impl_SurfacesWith.mono_l k
    refine ⟨?_, ?_, ?_⟩
    · intro y0 y1
      unfold impl_SurfacesWith.j0
      repeat' first|exact ih0 _ _|exact ih1 _ _ _ _ _|exact ih2 _ _ _ _ _ _ _ _ _|exact impl_CanonOf.mono _ _ _|exact impl_allPerms.mono _ _|exact lo_|refine LeO.ite ?_ ?_|refine LeO.bind ?_ (fun _ => ?_)
    · intro y0 y1 y2 y3 y4
      unfold impl_SurfacesWith.l0
      repeat' first|exact ih0 _ _|exact ih1 _ _ _ _ _|exact ih2 _ _ _ _ _ _ _ _ _|exact impl_CanonOf.mono _ _ _|exact impl_allPerms.mono _ _|exact lo_|refine LeO.ite ?_ ?_|refine LeO.bind ?_ (fun _ => ?_)
    · intro y0 y1 y2 y3 y4 y5 y6 y7 y8
      unfold impl_SurfacesWith.l1
      repeat' first|exact ih0 _ _|exact ih1 _ _ _ _ _|exact ih2 _ _ _ _ _ _ _ _ _|exact impl_CanonOf.mono _ _ _|exact impl_allPerms.mono _ _|exact lo_|refine LeO.ite ?_ ?_|refine LeO.bind ?_ (fun _ => ?_)
theorem impl_SurfacesWith.mono : ∀ a0 k, LeO (impl_SurfacesWith.f k a0) (impl_SurfacesWith.f (k + 1) a0) := by
  intro a0 k
  obtain ⟨ih0, ih1, ih2⟩ := impl_SurfacesWith.mono_l k
  unfold impl_SurfacesWith.f
  repeat' first|exact ih0 _ _|exact ih1 _ _ _ _ _|exact ih2 _ _ _ _ _ _ _ _ _|exact impl_CanonOf.mono _ _ _|exact impl_allPerms.mono _ _|exact lo_|refine LeO.ite ?_ ?_|refine LeO.bind ?_ (fun _ => ?_)
set_option maxHeartbeats 8000000 in
set_option maxRecDepth 100000 in
theorem impl_SurfacesWith.calls (k : Nat) (a0 : Int) (r : List (S33)) (w : World) (h : impl_SurfacesWith.f k a0 = some r) :
    Calls Try.prog 12 #[.int .i64 a0] w fun e w' => ∃ v0_ : Value, e = .returned (v0_) ∧ Kd.S k33 33 w' w.heap.size (fun k_ => (w.heap.size ≤ k_)) v0_ r ∧ Below w.heap.size w w' := by
  have hu33 := Try.underlying33
  have HB := Aside0.mk (Below.refl w.heap.size w)
  have H := h
  unfold impl_SurfacesWith.f at H
  clear h
  have HC2 := Aside0.mk H
  clear H
  go_enter Try.func12, Try.ntmps12
  go_upto_region 1 with (fail)
  go_cut [15] (fun v15 wc => ∃ (kq : Nat) (x15_1 : Bool), v15 = .bool x15_1 ∧ Aside0 (impl_SurfacesWith.j0 kq a0 x15_1 = some r) ∧ Aside0 (kq ≤ k) ∧ Aside0 (Below w.heap.size w wc))
  case first =>
    have H := HC2.out
    clear HC2
    by_cases c3 : a0 < 1
    · rw [if_pos c3] at H
      have c3b0 := decide_eq_true c3
      clear c3
      (first | rw [c3b0] | (simp only [i64_w, i32_w]; rw [c3b0]) | skip)
      have H' := Aside0.mk H
      clear H
      go_wp2
      go_meet
      case rel => exact ⟨_, (true), qc_, H', ⟨qd_⟩, ⟨hB_⟩⟩
    · rw [if_neg c3] at H
      have c3b0 := decide_eq_false c3
      clear c3
      (first | rw [c3b0] | (simp only [i64_w, i32_w]; rw [c3b0]) | skip)
      have H' := Aside0.mk H
      clear H
      go_wp2
      go_meet
      case rel => exact ⟨_, (decide (a0 > 4)), qc_, H', ⟨qd_⟩, ⟨hB_⟩⟩
  case rest =>
    clear HC2
    obtain ⟨kq, x15_1, rfl, HA, HJ1, HB⟩ := hcut
    cases kq with
    | zero => exact absurd HA.out (by simp [impl_SurfacesWith.j0])
    | succ kj1 =>
      have H := HA.out
      clear HA
      simp only [impl_SurfacesWith.j0] at H
      by_cases c4 : x15_1 = true
      · subst c4
        rw [if_pos rfl] at H
        obtain rfl := Option.some.inj H
        go_wp2
        go_ret
        exact ⟨_, qb_, by first | exact Kd.S_nil _ _ _ _ _ | exact Kd.N_nil _ _ _ _ _ | exact Kd.V_nil _ _ _ _ _ | exact Kd.Q_nil _ _ _ _ _ | exact Kd.R_nil _ _ _ _ _, hB_⟩
      · replace c4 := Bool.eq_false_iff.mpr c4
        subst c4
        have H1 : ((impl_allPerms.f kj1 a0).bind fun t268 => (impl_SurfacesWith.l0 kj1 a0 (([] : List (S33))) t268 (t268.length : Int) 0)) = some r := by rw [if_neg (show ¬ (false = true) by decide)] at H; exact H
        clear H
        have H := H1
        clear H1
        obtain ⟨y265, hy265⟩ : ∃ y_ : List (S33), y_ = (([] : List (S33))) := ⟨_, rfl⟩
        replace H : ((impl_allPerms.f kj1 a0).bind fun t268 => (impl_SurfacesWith.l0 kj1 a0 y265 t268 (t268.length : Int) 0)) = some r := by first | (rw [hy265]; exact H) | exact H
        have Ny265 := Aside0.mk hy265
        clear hy265
        obtain ⟨t268, A5, H⟩ := bi_ H
        have H' := Aside0.mk H
        clear H
        go_wp2_with (first | ((with_reducible refine gate_dst (N := 16) rfl ?_); refine Kd.S_lit k33 _ 33 ?hg (N := 16) ?hd (xs := ([] : List (S33))) (inner := []) (ok := (fun k_ => (w.heap.size ≤ k_))) (okp := (fun k_ => (w.heap.size ≤ k_))) ?hr ?hp (fun _ hk => hk) ((show ∀ k_, wc.heap.size ≤ k_ → (fun k_ => (w.heap.size ≤ k_)) k_ from fun k_ hk => (Nat.le_trans (below_size hB_) hk)) _ (Nat.le_refl _)) (Below.refl _ _) (Nat.le_refl _) (by simp) ?_; (case hd => rfl); (case hg => rfl); (case hr => first | (go_simp; done) | (go_simp; rfl)); (case hp => exact (Reps.none _ _)); intro v266 w6 ho7 hb hg_ hnew_; clear hg_ hnew_; (first | rw [← Ny265.out] at ho7 | (simp only [Int.reduceToNat] at ho7; rw [← Ny265.out] at ho7)); have HO267 := Aside0.mk (Kd.S_lower ho7 (below_size hB_)); replace HB := b1_ hb; clear hb ho7) | ((with_reducible refine gate_callee (f := 50) rfl ?_); refine gL_ (some 18) Try.func50 #[.int .i64 a0] rfl qa_ ?_; (with_reducible refine (impl_allPerms.calls kj1 a0 t268 _ A5.out).mono ?_); rintro e w8 ⟨v269, rfl, ho0, hb⟩; refine ⟨_, rfl, ?_⟩; have HO270 := Aside0.mk (Kd.N_lower (Kd.N_mono (ok' := fun k_ => (w.heap.size ≤ k_) ∧ some k_ ≠ (v266 : Value).ownBlock) ho0 (fun k_ hk_ => ⟨(Nat.le_trans (below_size hB_) hk_), (Kd.fresh' (Kd.S_lt (ss_ HO267)) k_ hk_)⟩)) (below_size hB_)); replace HO267 := Aside0.mk (Kd.S_elder' (ss_ HO267) (Kd.N_base ho0) hb); replace HB := b1_ hb; clear hb ho0; obtain ⟨Ao9, co9, eo9⟩ := Kd.N_slice HO270.out; subst eo9))
        go_loopg [3, 20] kj1 (fun kq v3 v20 w' => ∃ (x3_2 : List (S33)) (x20_2 : Int), v20 = .int .i64 x20_2 ∧ Aside0 (impl_SurfacesWith.l0 kq a0 x3_2 t268 (t268.length : Int) x20_2 = some r) ∧ Aside0 (kq ≤ kj1) ∧ Aside0 (Kd.S k33 33 w' w.heap.size (fun k_ => (w.heap.size ≤ k_) ∧ some k_ ≠ ((.slice Ao9 t268.length co9) : Value).ownBlock) v3 x3_2) ∧ Aside0 (Kd.N (Kd.slice 3 (Kd.int .i64)) 23 w' w.heap.size (fun k_ => (w.heap.size ≤ k_) ∧ some k_ ≠ (v3 : Value).ownBlock) (.slice Ao9 t268.length co9) t268) ∧ Aside0 (Below w.heap.size w w'))
        case atStart => exact ⟨(y265), (0), qc_, H', ⟨Nat.le_refl _⟩, ⟨(ss_ HO267)⟩, ⟨by (with_reducible repeat (first | apply Kd.N_alloc | apply Kd.N_drewN | apply Kd.N_drew)); exact HO270.out⟩, ⟨hB_⟩⟩
        case round =>
          clear H'
          obtain ⟨x3_2, x20_2, rfl, HA, HK2, HO_3, HO_18, HB⟩ := hrel
          cases gk with
          | zero => exact absurd HA.out (by simp [impl_SurfacesWith.l0])
          | succ k2 =>
            have H := HA.out
            clear HA
            simp only [impl_SurfacesWith.l0] at H
            by_cases c10 : x20_2 < (t268.length : Int)
            · rw [if_pos c10] at H
              have c10b0 := decide_eq_true c10
              clear c10
              have c11 := cp_ H
              replace H := ca_ H
              have c11b0 := decide_eq_true c11
              clear c11
              have c12 := cp_ H
              replace H := ca_ H
              have c12b0 := decide_eq_true c12
              clear c12
              obtain ⟨t275, A13, H⟩ := bi_ H
              have H' := Aside0.mk H
              clear H
              have p274 : 0 ≤ (x20_2 : Int) := of_decide_eq_true qe_
              have q274 : x20_2 < (t268.length : Int) := of_decide_eq_true qe_
              obtain ⟨ad274, A274_0, c274_0, e274, hx274_0, hl274_0, hi274_0⟩ := at_L5 (Kd.N_reads' HO_18.out).2.2 x20_2 p274 q274
              cases e274
              obtain ⟨ce274, hce274, hMe274, hcc274⟩ := Kd.N_get HO_18.out [] x20_2 p274 (by first | exact q274 | exact of_decide_eq_true qe_ | (have e_ := (Kd.N_reads' HO_18.out).1; omega))
              obtain ⟨ua274_0, uc274_0, rfl, ul274_0, ge274_0⟩ := Kd.FK_slice_open hMe274
              have hv274_0 := hcc274 0 _ rfl
              rw [Nat.add_zero, show ((Kd.slice 3 (Kd.int .i64))).sz = 1 from rfl, Nat.mul_one] at hv274_0
              replace hv274_0 := Option.some.inj (hv274_0.symm.trans hx274_0)
              injection hv274_0 with hva_ hvn_ hvc_
              rw [hva_] at ge274_0
              rw [hvc_] at ul274_0
              have HL274_0 := Aside0.mk (show Kd.V (Kd.int .i64) 3 _ w.heap.size _ _ (rd_L5 t268 x20_2) from Kd.V_mk ul274_0 ge274_0)
              clear hva_ hvn_ hvc_ ge274_0 ul274_0
              clear hcc274 hce274
              have HR274_0 := Aside0.mk hi274_0
              have HC274_0 := Aside0.mk hl274_0
              clear hi274_0 hl274_0
              replace p274 := eq_true p274
              replace q274 := eq_true q274
              go_wp2_with (first | ((with_reducible refine gate_callee (f := 50) rfl ?_); refine gL_ (some 25) Try.func50 #[.int .i64 a0] rfl qa_ ?_; (with_reducible refine (impl_allPerms.calls k2 a0 t275 _ A13.out).mono ?_); rintro e w14 ⟨v276, rfl, ho0, hb⟩; refine ⟨_, rfl, ?_⟩; replace HL274_0 := Aside0.mk (Kd.V_elder' (by (with_reducible repeat (first | apply Kd.V_alloc | apply Kd.V_drewN | apply Kd.V_drew)); exact HL274_0.out) (Kd.N_base ho0) hb); have HO277 := Aside0.mk (Kd.N_lower (Kd.N_mono (ok' := fun k_ => (w.heap.size ≤ k_) ∧ some k_ ≠ (u3 : Value).ownBlock ∧ some k_ ≠ (.slice (some ad274) t268.length co9 : Value).ownBlock) ho0 (fun k_ hk_ => ⟨(Nat.le_trans (below_size hB_) hk_), (Kd.fresh' (Kd.S_lt (ss_ HO_3)) k_ hk_), (Kd.fresh' (Kd.N_lt (by (with_reducible repeat (first | apply Kd.N_alloc | apply Kd.N_drewN | apply Kd.N_drew)); exact HO_18.out)) k_ hk_)⟩)) (below_size hB_)); replace HO_3 := Aside0.mk (Kd.S_elder' (ss_ HO_3) (Kd.N_base ho0) hb); replace HO_18 := Aside0.mk (Kd.N_elder' (by (with_reducible repeat (first | apply Kd.N_alloc | apply Kd.N_drewN | apply Kd.N_drew)); exact HO_18.out) (Kd.N_base ho0) hb); replace HR274_0 := Aside0.mk (Kd.C_below (by repeat (first | (with_reducible exact HR274_0.out) | (with_reducible refine Kd.C_alloc ?_ _) | (with_reducible refine Kd.C_drewN ?_ _) | (with_reducible refine Kd.C_drew ?_) | exact HR274_0.out)) hb); replace HB := b1_ hb; clear hb ho0; obtain ⟨Ao15, co15, eo15⟩ := Kd.N_slice HO277.out; subst eo15))
              go_loopg [3, 27] k2 (fun kq v3 v27 w' => ∃ (x3_3 : List (S33)) (x27_3 : Int), v27 = .int .i64 x27_3 ∧ Aside0 (impl_SurfacesWith.l1 kq a0 x3_3 (rd_L5 t268 x20_2) t268 (t268.length : Int) x20_2 t275 (t275.length : Int) x27_3 = some r) ∧ Aside0 (kq ≤ k2) ∧ Aside0 (Kd.S k33 33 w' w.heap.size (fun k_ => (w.heap.size ≤ k_) ∧ some k_ ≠ ((.slice (some ad274) t268.length co9) : Value).ownBlock ∧ some k_ ≠ ((.slice Ao15 t275.length co15) : Value).ownBlock) v3 x3_3) ∧ Aside0 (Kd.V (Kd.int .i64) 3 w' w.heap.size (fun k_ => (w.heap.size ≤ k_) ∧ some k_ ≠ (v3 : Value).ownBlock ∧ some k_ ≠ ((.slice (some ad274) t268.length co9) : Value).ownBlock ∧ some k_ ≠ ((.slice Ao15 t275.length co15) : Value).ownBlock) (.slice A274_0 (rd_L5 t268 x20_2).length c274_0) (rd_L5 t268 x20_2)) ∧ Aside0 (Kd.N (Kd.slice 3 (Kd.int .i64)) 23 w' w.heap.size (fun k_ => (w.heap.size ≤ k_) ∧ some k_ ≠ (v3 : Value).ownBlock ∧ some k_ ≠ ((.slice Ao15 t275.length co15) : Value).ownBlock) (.slice (some ad274) t268.length co9) t268) ∧ Aside0 (Kd.N (Kd.slice 3 (Kd.int .i64)) 23 w' w.heap.size (fun k_ => (w.heap.size ≤ k_) ∧ some k_ ≠ (v3 : Value).ownBlock ∧ some k_ ≠ ((.slice (some ad274) t268.length co9) : Value).ownBlock) (.slice Ao15 t275.length co15) t275) ∧ Aside0 (Below w.heap.size w w'))
              case atStart => exact ⟨(x3_2), (0), qc_, H', ⟨Nat.le_refl _⟩, ⟨(sw_ (Kd.S_mono HO_3.out (fun _ hk => ⟨hk.1.1, ⟨hk.1.2, hk.2⟩⟩)))⟩, ⟨by (with_reducible repeat (first | apply Kd.V_alloc | apply Kd.V_drewN | apply Kd.V_drew)); exact Kd.V_mono HL274_0.out (fun _ hk => ⟨hk.1.1.1, ⟨hk.1.1.2, ⟨hk.1.2, hk.2⟩⟩⟩)⟩, ⟨by (with_reducible repeat (first | apply Kd.N_alloc | apply Kd.N_drewN | apply Kd.N_drew)); exact Kd.N_mono HO_18.out (fun _ hk => ⟨hk.1.1, ⟨hk.1.2, hk.2⟩⟩)⟩, ⟨by (with_reducible repeat (first | apply Kd.N_alloc | apply Kd.N_drewN | apply Kd.N_drew)); exact HO277.out⟩, ⟨hB_⟩⟩
              case round =>
                clear H'
                obtain ⟨x3_3, x27_3, rfl, HA, HK3, HO_3, HO_5, HO_18, HO_25, HB⟩ := hrel
                cases gk with
                | zero => exact absurd HA.out (by simp [impl_SurfacesWith.l1])
                | succ k3 =>
                  have H := HA.out
                  clear HA
                  simp only [impl_SurfacesWith.l1] at H
                  by_cases c16 : x27_3 < (t275.length : Int)
                  · rw [if_pos c16] at H
                    have c16b0 := decide_eq_true c16
                    clear c16
                    have c17 := cp_ H
                    replace H := ca_ H
                    have c17b0 := decide_eq_true c17
                    clear c17
                    have c18 := cp_ H
                    replace H := ca_ H
                    have c18b0 := decide_eq_true c18
                    clear c18
                    obtain ⟨⟨t279, t282, t285⟩, A19, H⟩ := bi_ H
                    try dsimp only at H
                    by_cases c20 : t285 = true
                    · subst c20
                      rw [if_pos rfl] at H
                      have c21 := cp_ H
                      replace H := ca_ H
                      have LMc21 := Aside0.mk c21
                      clear c21
                      obtain ⟨y287, hy287⟩ : ∃ y_ : List (S33), y_ = (x3_3 ++ [(⟨t279, t282⟩ : S33)]) := ⟨_, rfl⟩
                      replace H : (impl_SurfacesWith.l1 k3 a0 y287 (rd_L5 t268 x20_2) t268 (t268.length : Int) x20_2 t275 (t275.length : Int) (wrap64 (x27_3 + 1))) = some r := by first | (rw [hy287]; exact H) | exact H
                      have Ny287 := Aside0.mk hy287
                      clear hy287
                      have H' := Aside0.mk H
                      clear H
                      have p278 : 0 ≤ (x27_3 : Int) := of_decide_eq_true qe_
                      have q278 : x27_3 < (t275.length : Int) := of_decide_eq_true qe_
                      obtain ⟨ad278, A278_0, c278_0, e278, hx278_0, hl278_0, hi278_0⟩ := at_L5 (Kd.N_reads' HO_25.out).2.2 x27_3 p278 q278
                      cases e278
                      obtain ⟨ce278, hce278, hMe278, hcc278⟩ := Kd.N_get HO_25.out [] x27_3 p278 (by first | exact q278 | exact of_decide_eq_true qe_ | (have e_ := (Kd.N_reads' HO_25.out).1; omega))
                      obtain ⟨ua278_0, uc278_0, rfl, ul278_0, ge278_0⟩ := Kd.FK_slice_open hMe278
                      have hv278_0 := hcc278 0 _ rfl
                      rw [Nat.add_zero, show ((Kd.slice 3 (Kd.int .i64))).sz = 1 from rfl, Nat.mul_one] at hv278_0
                      replace hv278_0 := Option.some.inj (hv278_0.symm.trans hx278_0)
                      injection hv278_0 with hva_ hvn_ hvc_
                      rw [hva_] at ge278_0
                      rw [hvc_] at ul278_0
                      have HL278_0 := Aside0.mk (show Kd.V (Kd.int .i64) 3 _ w.heap.size _ _ (rd_L5 t275 x27_3) from Kd.V_mk ul278_0 ge278_0)
                      clear hva_ hvn_ hvc_ ge278_0 ul278_0
                      clear hcc278 hce278
                      have HR278_0 := Aside0.mk hi278_0
                      have HC278_0 := Aside0.mk hl278_0
                      clear hi278_0 hl278_0
                      replace p278 := eq_true p278
                      replace q278 := eq_true q278
                      go_wp2_with (first | ((with_reducible refine gate_callee (f := 17) rfl ?_); refine gL_ (some 35) Try.func17 #[.agg #[.slice A274_0 (rd_L5 t268 x20_2).length c274_0, .slice A278_0 (rd_L5 t275 x27_3).length c278_0]] rfl qa_ ?_; (with_reducible refine (impl_CanonOf.calls k3 _ _ (rd_L5 t268 x20_2) _ _ (rd_L5 t275 x27_3) t279 t282 true _ ?side1 ?side2 ?side3 ?side4 A19.out).mono ?_); (case side1 => exact cw_ ((Kd.V_reads' HO_5.out).2.2)); (case side2 => exact (Kd.V_reads' HO_5.out).2.1); (case side3 => repeat (first | exact (by repeat (first | (with_reducible exact HR278_0.out) | (with_reducible refine Kd.C_alloc ?_ _) | (with_reducible refine Kd.C_drewN ?_ _) | (with_reducible refine Kd.C_drew ?_) | exact HR278_0.out)) | (with_reducible refine Kd.C_alloc ?_ _) | (with_reducible refine Kd.C_drewN ?_ _) | (with_reducible refine Kd.C_drew ?_))); (case side4 => exact HC278_0.out); rintro e w22 ⟨v280, v283, rfl, ho0, ho1, hb⟩; refine ⟨_, rfl, ?_⟩; replace HO_3 := Aside0.mk (Kd.S_mono (Kd.S_told (Kd.S_told (Kd.S_old (ss_ HO_3) hb) (Kd.R_base ho0)) (Kd.R_base ho1)) (fun _ h_ => h_.1)); replace HO_5 := Aside0.mk (Kd.V_mono (Kd.V_told (Kd.V_told (Kd.V_old (by (with_reducible repeat (first | apply Kd.V_alloc | apply Kd.V_drewN | apply Kd.V_drew)); exact HO_5.out) hb) (Kd.R_base ho0)) (Kd.R_base ho1)) (fun _ h_ => h_.1)); replace HO_18 := Aside0.mk (Kd.N_mono (Kd.N_told (Kd.N_told (Kd.N_old (by (with_reducible repeat (first | apply Kd.N_alloc | apply Kd.N_drewN | apply Kd.N_drew)); exact HO_18.out) hb) (Kd.R_base ho0)) (Kd.R_base ho1)) (fun _ h_ => h_.1)); replace HO_25 := Aside0.mk (Kd.N_mono (Kd.N_told (Kd.N_told (Kd.N_old (by (with_reducible repeat (first | apply Kd.N_alloc | apply Kd.N_drewN | apply Kd.N_drew)); exact HO_25.out) hb) (Kd.R_base ho0)) (Kd.R_base ho1)) (fun _ h_ => h_.1)); replace HL278_0 := Aside0.mk (Kd.V_mono (Kd.V_told (Kd.V_told (Kd.V_old (by (with_reducible repeat (first | apply Kd.V_alloc | apply Kd.V_drewN | apply Kd.V_drew)); exact HL278_0.out) hb) (Kd.R_base ho0)) (Kd.R_base ho1)) (fun _ h_ => h_.1)); have HO281 := Aside0.mk (Kd.R_lower (Kd.R_newM (M := fun k_ => (w.heap.size ≤ k_)) ho0 (below_size hB_) (fun k_ h_ => h_)) (below_size hB_)); have HO284 := Aside0.mk (Kd.R_lower (Kd.R_newM (M := fun k_ => (w.heap.size ≤ k_)) ho1 (below_size hB_) (fun k_ h_ => h_)) (below_size hB_)); replace HR278_0 := Aside0.mk (Kd.C_below (by repeat (first | (with_reducible exact HR278_0.out) | (with_reducible refine Kd.C_alloc ?_ _) | (with_reducible refine Kd.C_drewN ?_ _) | (with_reducible refine Kd.C_drew ?_) | exact HR278_0.out)) hb); replace HB := b1_ hb; clear hb ho0 ho1) | ((with_reducible refine gate_dst (N := 8) rfl ?_); refine bx_ 8 #[.slice none 0 0, .slice none 0 0] 33 ?_; intro gb286 hg w23 hbox hb; replace HO_3 := Aside0.mk (Kd.S_below (Kd.S_elderB (ss_ HO_3) gb286 (Nat.le_of_eq hg.symm)) hb); replace HO_5 := Aside0.mk (Kd.V_below (Kd.V_elderB (by (with_reducible repeat (first | apply Kd.V_alloc | apply Kd.V_drewN | apply Kd.V_drew)); exact HO_5.out) gb286 (Nat.le_of_eq hg.symm)) hb); replace HO_18 := Aside0.mk (Kd.N_below (Kd.N_elderB (by (with_reducible repeat (first | apply Kd.N_alloc | apply Kd.N_drewN | apply Kd.N_drew)); exact HO_18.out) gb286 (Nat.le_of_eq hg.symm)) hb); replace HO_25 := Aside0.mk (Kd.N_below (Kd.N_elderB (by (with_reducible repeat (first | apply Kd.N_alloc | apply Kd.N_drewN | apply Kd.N_drew)); exact HO_25.out) gb286 (Nat.le_of_eq hg.symm)) hb); replace HL278_0 := Aside0.mk (Kd.V_below (Kd.V_elderB (by (with_reducible repeat (first | apply Kd.V_alloc | apply Kd.V_drewN | apply Kd.V_drew)); exact HL278_0.out) gb286 (Nat.le_of_eq hg.symm)) hb); replace HO281 := rb_ HO281 hb; replace HO284 := rb_ HO284 hb; replace HR278_0 := Aside0.mk (Kd.C_below (by repeat (first | (with_reducible exact HR278_0.out) | (with_reducible refine Kd.C_alloc ?_ _) | (with_reducible refine Kd.C_drewN ?_ _) | (with_reducible refine Kd.C_drew ?_) | exact HR278_0.out)) hb); have BK286 := Aside0.mk hbox; have GW286 := gw_ w hg; have GE286 := GW286; replace HB := b1_ hb; clear hb hbox hg; obtain ⟨Ao24, co24, eo24⟩ := Kd.R_slice HO281.out; subst eo24; obtain ⟨hcz25_0, hcz25_1, hfz25_0, hfz25_1⟩ := c2_ BK286; obtain ⟨Ao26, co26, eo26⟩ := Kd.R_slice HO284.out; subst eo26) | ((with_reducible refine gate_store (t := 33) (p := 8) rfl ?_); refine store_event (t := 33) (p := 8) (v := ?vo_w27) (w1 := ((w23.setCell ⟨gb286, 0, none⟩ (.slice Ao24 t279.length co24)).setCell ⟨gb286, 1, none⟩ (.slice Ao26 t282.length co26))) ?hg ?ho ?hn ?hr ?_; (case ho => rfl); (case hg => rfl); (case hn => rfl); (case hr => first | (go_simp; done) | (go_simp; rfl)); intro w27 hw; have n0_ : Aside0 (Kd.S k33 33 w27 w.heap.size (fun k_ => (w.heap.size ≤ k_) ∧ some k_ ≠ (.slice (some ad274) t268.length co9 : Value).ownBlock ∧ some k_ ≠ (.slice (some ad278) t275.length co15 : Value).ownBlock ∧ some k_ ≠ (.slice Ao24 t279.length co24 : Value).ownBlock ∧ some k_ ≠ (.slice Ao26 t282.length co26 : Value).ownBlock ∧ k_ ≠ gb286) u3 x3_3) := ⟨(by rw [hw]; exact (sw_ (Kd.S_mono (Kd.S_far (p := ⟨gb286, 1, none⟩) (Kd.S_far (p := ⟨gb286, 0, none⟩) (Kd.S_mono HO_3.out (fun k_ hk => (⟨hk, hk.2⟩ : _ ∧ k_ ≠ gb286))) (fun _ hk => hk.2) (.slice Ao24 t279.length co24)) (fun _ hk => hk.2) (.slice Ao26 t282.length co26)) (fun _ hk => ⟨hk.1.1.1.1.1, ⟨hk.1.1.1.1.2.1, ⟨hk.1.1.1.1.2.2, ⟨hk.1.1.1.2, ⟨hk.1.1.2, hk.1.2⟩⟩⟩⟩⟩))))⟩; have n1_ : Aside0 (Kd.V (Kd.int .i64) 3 w27 w.heap.size (fun k_ => (w.heap.size ≤ k_) ∧ some k_ ≠ (u3 : Value).ownBlock ∧ some k_ ≠ (.slice (some ad274) t268.length co9 : Value).ownBlock ∧ some k_ ≠ (.slice (some ad278) t275.length co15 : Value).ownBlock ∧ some k_ ≠ (.slice Ao24 t279.length co24 : Value).ownBlock ∧ some k_ ≠ (.slice Ao26 t282.length co26 : Value).ownBlock ∧ k_ ≠ gb286) (.slice A274_0 (rd_L5 t268 x20_2).length c274_0) (rd_L5 t268 x20_2)) := ⟨(by rw [hw]; exact (by (with_reducible repeat (first | apply Kd.V_alloc | apply Kd.V_drewN | apply Kd.V_drew)); exact Kd.V_mono (Kd.V_far (p := ⟨gb286, 1, none⟩) (Kd.V_far (p := ⟨gb286, 0, none⟩) (Kd.V_mono HO_5.out (fun k_ hk => (⟨hk, hk.2⟩ : _ ∧ k_ ≠ gb286))) (fun _ hk => hk.2) (.slice Ao24 t279.length co24)) (fun _ hk => hk.2) (.slice Ao26 t282.length co26)) (fun _ hk => ⟨hk.1.1.1.1.1, ⟨hk.1.1.1.1.2.1, ⟨hk.1.1.1.1.2.2.1, ⟨hk.1.1.1.1.2.2.2, ⟨hk.1.1.1.2, ⟨hk.1.1.2, hk.1.2⟩⟩⟩⟩⟩⟩)))⟩; have n2_ : Aside0 (Kd.N (Kd.slice 3 (Kd.int .i64)) 23 w27 w.heap.size (fun k_ => (w.heap.size ≤ k_) ∧ some k_ ≠ (u3 : Value).ownBlock ∧ some k_ ≠ (.slice (some ad278) t275.length co15 : Value).ownBlock ∧ some k_ ≠ (.slice Ao24 t279.length co24 : Value).ownBlock ∧ some k_ ≠ (.slice Ao26 t282.length co26 : Value).ownBlock ∧ k_ ≠ gb286) (.slice (some ad274) t268.length co9) t268) := ⟨(by rw [hw]; exact (by (with_reducible repeat (first | apply Kd.N_alloc | apply Kd.N_drewN | apply Kd.N_drew)); exact Kd.N_mono (Kd.N_far (p := ⟨gb286, 1, none⟩) (Kd.N_far (p := ⟨gb286, 0, none⟩) (Kd.N_mono HO_18.out (fun k_ hk => (⟨hk, hk.2⟩ : _ ∧ k_ ≠ gb286))) (fun _ hk => hk.2) (.slice Ao24 t279.length co24)) (fun _ hk => hk.2) (.slice Ao26 t282.length co26)) (fun _ hk => ⟨hk.1.1.1.1.1, ⟨hk.1.1.1.1.2.1, ⟨hk.1.1.1.1.2.2, ⟨hk.1.1.1.2, ⟨hk.1.1.2, hk.1.2⟩⟩⟩⟩⟩)))⟩; have n3_ : Aside0 (Kd.N (Kd.slice 3 (Kd.int .i64)) 23 w27 w.heap.size (fun k_ => (w.heap.size ≤ k_) ∧ some k_ ≠ (u3 : Value).ownBlock ∧ some k_ ≠ (.slice (some ad274) t268.length co9 : Value).ownBlock ∧ some k_ ≠ (.slice Ao24 t279.length co24 : Value).ownBlock ∧ some k_ ≠ (.slice Ao26 t282.length co26 : Value).ownBlock ∧ k_ ≠ gb286) (.slice (some ad278) t275.length co15) t275) := ⟨(by rw [hw]; exact (by (with_reducible repeat (first | apply Kd.N_alloc | apply Kd.N_drewN | apply Kd.N_drew)); exact Kd.N_mono (Kd.N_far (p := ⟨gb286, 1, none⟩) (Kd.N_far (p := ⟨gb286, 0, none⟩) (Kd.N_mono HO_25.out (fun k_ hk => (⟨hk, hk.2⟩ : _ ∧ k_ ≠ gb286))) (fun _ hk => hk.2) (.slice Ao24 t279.length co24)) (fun _ hk => hk.2) (.slice Ao26 t282.length co26)) (fun _ hk => ⟨hk.1.1.1.1.1, ⟨hk.1.1.1.1.2.1, ⟨hk.1.1.1.1.2.2, ⟨hk.1.1.1.2, ⟨hk.1.1.2, hk.1.2⟩⟩⟩⟩⟩)))⟩; have n4_ : Aside0 (Kd.V (Kd.int .i64) 3 w27 w.heap.size (fun k_ => (w.heap.size ≤ k_) ∧ some k_ ≠ (u3 : Value).ownBlock ∧ some k_ ≠ (.slice (some ad274) t268.length co9 : Value).ownBlock ∧ some k_ ≠ (.slice (some ad278) t275.length co15 : Value).ownBlock ∧ some k_ ≠ (.slice Ao24 t279.length co24 : Value).ownBlock ∧ some k_ ≠ (.slice Ao26 t282.length co26 : Value).ownBlock ∧ k_ ≠ gb286) (.slice A278_0 (rd_L5 t275 x27_3).length c278_0) (rd_L5 t275 x27_3)) := ⟨(by rw [hw]; exact (by (with_reducible repeat (first | apply Kd.V_alloc | apply Kd.V_drewN | apply Kd.V_drew)); exact Kd.V_mono (Kd.V_far (p := ⟨gb286, 1, none⟩) (Kd.V_far (p := ⟨gb286, 0, none⟩) (Kd.V_mono HL278_0.out (fun k_ hk => (⟨hk, hk.2⟩ : _ ∧ k_ ≠ gb286))) (fun _ hk => hk.2) (.slice Ao24 t279.length co24)) (fun _ hk => hk.2) (.slice Ao26 t282.length co26)) (fun _ hk => ⟨hk.1.1.1.1.1.1, ⟨hk.1.1.1.1.1.2.1, ⟨hk.1.1.1.1.1.2.2, ⟨hk.1.1.1.1.2, ⟨hk.1.1.1.2, ⟨hk.1.1.2, hk.1.2⟩⟩⟩⟩⟩⟩)))⟩; have n5_ : Aside0 (Kd.R (Kd.int .i64) 3 w27 w.heap.size (fun k_ => (w.heap.size ≤ k_) ∧ some k_ ≠ (.slice Ao26 t282.length co26 : Value).ownBlock) (.slice Ao24 t279.length co24) t279) := ⟨(by rw [hw]; exact (rw_ (Kd.R_mono (Kd.R_far (p := ⟨gb286, 1, none⟩) (Kd.R_far (p := ⟨gb286, 0, none⟩) (Kd.R_types HO281.out BK286.out (by decide)) (fun _ hk => hk.2) (.slice Ao24 t279.length co24)) (fun _ hk => hk.2) (.slice Ao26 t282.length co26)) (fun _ hk => ⟨hk.1.1, hk.1.2⟩))))⟩; have n6_ : Aside0 (Kd.R (Kd.int .i64) 3 w27 w.heap.size (fun k_ => (w.heap.size ≤ k_) ∧ some k_ ≠ (.slice Ao24 t279.length co24 : Value).ownBlock) (.slice Ao26 t282.length co26) t282) := ⟨(by rw [hw]; exact (rw_ (Kd.R_mono (Kd.R_far (p := ⟨gb286, 1, none⟩) (Kd.R_far (p := ⟨gb286, 0, none⟩) (Kd.R_types HO284.out BK286.out (by decide)) (fun _ hk => hk.2) (.slice Ao24 t279.length co24)) (fun _ hk => hk.2) (.slice Ao26 t282.length co26)) (fun _ hk => ⟨hk.1.1, hk.1.2⟩))))⟩; have n7_ : Aside0 (w27.heap[gb286]? = some (.cells #[.slice Ao24 t279.length co24, .slice Ao26 t282.length co26] 33 (0, 0))) := ⟨(by rw [hw]; exact qp_)⟩; have n8_ : Aside0 (Below w.heap.size w w27) := ⟨(by rw [hw]; exact hB_)⟩; clear hw; clear HO_3; clear HO_5; clear HO_18; clear HO_25; clear HL278_0; clear HO281; clear HO284; clear BK286; clear HB; have HO_3 := n0_; have HO_5 := n1_; have HO_18 := n2_; have HO_25 := n3_; have HL278_0 := n4_; have HO281 := n5_; have HO284 := n6_; have BK286 := n7_; have HB := n8_; clear n0_ n1_ n2_ n3_ n4_ n5_ n6_ n7_ n8_; obtain ⟨hcz28_0, hcz28_1, hfz28_0, hfz28_1⟩ := c2_ BK286) | ((with_reducible refine gate_builtin (b := .append) (xs := #[.tmp 39, .tmp 41]) rfl ?_); at_builtin; refine Kd.S_append k33 (w0 := w) w.heap.size rfl (.tmp 39) (.tmp 41) 25 33 (.agg #[(.slice none 0 0), (.slice none 0 0)]) 48 rfl Try.underlying25 info33 rfl (by decide) (by omega) u3 x3_3 (⟨t279, t282⟩ : S33) [.slice Ao24 t279.length co24, .slice Ao26 t282.length co26] (fun k_ => (w.heap.size ≤ k_) ∧ some k_ ≠ (.slice (some ad274) t268.length co9 : Value).ownBlock ∧ some k_ ≠ (.slice (some ad278) t275.length co15 : Value).ownBlock ∧ k_ ≠ gb286) (fun k_ => some k_ = (.slice Ao24 t279.length co24 : Value).ownBlock ∨ some k_ = (.slice Ao26 t282.length co26 : Value).ownBlock) rfl rfl ?aP ?aK ?aF ?aO ?aB ?aS ?aL ?_; (case aP => exact k33_mkM _ _ _ (⟨t279, t282⟩ : S33) (Kd.R_mono (Kd.R_tight rfl (Kd.R_mono (ok' := (fun k_ => ((fun k_ => (w.heap.size ≤ k_) ∧ some k_ ≠ (.slice (some ad274) t268.length co9 : Value).ownBlock ∧ some k_ ≠ (.slice (some ad278) t275.length co15 : Value).ownBlock ∧ k_ ≠ gb286)) k_ ∧ some k_ ≠ (u3 : Value).ownBlock)) (Kd.R_types (Kd.R_apart' (Kd.R_apart' (Kd.R_apart' (HO281.out) (Kd.N_typed HO_18.out) (by decide)) (Kd.N_typed HO_25.out) (by decide)) (Kd.S_typed HO_3.out) (by decide)) BK286.out (by decide)) (fun k_ hk => ⟨⟨hk.1.1.1.1.1, ⟨hk.1.1.1.2, ⟨hk.1.1.2, hk.2⟩⟩⟩, hk.1.2⟩))) (fun _ hk => .inl hk)) (Kd.R_mono (Kd.R_tight rfl (Kd.R_mono (ok' := (fun k_ => ((fun k_ => (w.heap.size ≤ k_) ∧ some k_ ≠ (.slice (some ad274) t268.length co9 : Value).ownBlock ∧ some k_ ≠ (.slice (some ad278) t275.length co15 : Value).ownBlock ∧ k_ ≠ gb286)) k_ ∧ some k_ ≠ (u3 : Value).ownBlock)) (Kd.R_types (Kd.R_apart' (Kd.R_apart' (Kd.R_apart' (HO284.out) (Kd.N_typed HO_18.out) (by decide)) (Kd.N_typed HO_25.out) (by decide)) (Kd.S_typed HO_3.out) (by decide)) BK286.out (by decide)) (fun k_ hk => ⟨⟨hk.1.1.1.1.1, ⟨hk.1.1.1.2, ⟨hk.1.1.2, hk.2⟩⟩⟩, hk.1.2⟩))) (fun _ hk => .inr hk)) (fun k_ h0_ h1_ => (HO281.out.1 k_ h0_).2 h1_.symm)); (case aK => exact (fun k_ hk => hk.elim (fun e_ => ((Kd.R_mono (ok' := (fun k_ => ((fun k_ => (w.heap.size ≤ k_) ∧ some k_ ≠ (.slice (some ad274) t268.length co9 : Value).ownBlock ∧ some k_ ≠ (.slice (some ad278) t275.length co15 : Value).ownBlock ∧ k_ ≠ gb286)) k_ ∧ some k_ ≠ (u3 : Value).ownBlock)) (Kd.R_types (Kd.R_apart' (Kd.R_apart' (Kd.R_apart' (HO281.out) (Kd.N_typed HO_18.out) (by decide)) (Kd.N_typed HO_25.out) (by decide)) (Kd.S_typed HO_3.out) (by decide)) BK286.out (by decide)) (fun k_ hk => ⟨⟨hk.1.1.1.1.1, ⟨hk.1.1.1.2, ⟨hk.1.1.2, hk.2⟩⟩⟩, hk.1.2⟩))).1 k_ e_.symm) (fun e_ => ((Kd.R_mono (ok' := (fun k_ => ((fun k_ => (w.heap.size ≤ k_) ∧ some k_ ≠ (.slice (some ad274) t268.length co9 : Value).ownBlock ∧ some k_ ≠ (.slice (some ad278) t275.length co15 : Value).ownBlock ∧ k_ ≠ gb286)) k_ ∧ some k_ ≠ (u3 : Value).ownBlock)) (Kd.R_types (Kd.R_apart' (Kd.R_apart' (Kd.R_apart' (HO284.out) (Kd.N_typed HO_18.out) (by decide)) (Kd.N_typed HO_25.out) (by decide)) (Kd.S_typed HO_3.out) (by decide)) BK286.out (by decide)) (fun k_ hk => ⟨⟨hk.1.1.1.1.1, ⟨hk.1.1.1.2, ⟨hk.1.1.2, hk.2⟩⟩⟩, hk.1.2⟩))).1 k_ e_.symm))); (case aB => exact hB_); (case aF => exact (fun k_ hk => ⟨(Nat.le_trans (below_size hB_) hk), Kd.fresh' (Kd.N_lt (by (with_reducible repeat (first | apply Kd.N_alloc | apply Kd.N_drewN | apply Kd.N_drew)); exact HO_18.out)) k_ hk, Kd.fresh' (Kd.N_lt (by (with_reducible repeat (first | apply Kd.N_alloc | apply Kd.N_drewN | apply Kd.N_drew)); exact HO_25.out)) k_ hk, Kd.freshB (kk_ BK286) k_ hk⟩)); (case aO => exact (sw_ (Kd.S_mono HO_3.out (fun _ hk => ⟨⟨hk.1, ⟨hk.2.1, ⟨hk.2.2.1, hk.2.2.2.2.2⟩⟩⟩, fun e_ => e_.elim hk.2.2.2.1 hk.2.2.2.2.1⟩)))); (case aS => exact (below_size hB_)); (case aL => have := LMc21.out; omega); intro v288 w29 ho hb hg hat; rw [← Ny287.out] at ho; replace HO_5 := Aside0.mk (Kd.V_afterv (ok := (fun k_ => (w.heap.size ≤ k_) ∧ some k_ ≠ (.slice (some ad274) t268.length co9 : Value).ownBlock ∧ some k_ ≠ (.slice (some ad278) t275.length co15 : Value).ownBlock ∧ some k_ ≠ (.slice Ao24 t279.length co24 : Value).ownBlock ∧ some k_ ≠ (.slice Ao26 t282.length co26 : Value).ownBlock ∧ k_ ≠ gb286)) (by (with_reducible repeat (first | apply Kd.V_alloc | apply Kd.V_drewN | apply Kd.V_drew)); exact Kd.V_mono HO_5.out (fun _ hk => ⟨⟨hk.1, ⟨hk.2.2.1, ⟨hk.2.2.2.1, ⟨hk.2.2.2.2.1, ⟨hk.2.2.2.2.2.1, hk.2.2.2.2.2.2⟩⟩⟩⟩⟩, hk.2.1⟩)) hg hat); replace HO_18 := Aside0.mk (Kd.N_afterv (ok := (fun k_ => (w.heap.size ≤ k_) ∧ some k_ ≠ (.slice (some ad278) t275.length co15 : Value).ownBlock ∧ some k_ ≠ (.slice Ao24 t279.length co24 : Value).ownBlock ∧ some k_ ≠ (.slice Ao26 t282.length co26 : Value).ownBlock ∧ k_ ≠ gb286)) (by (with_reducible repeat (first | apply Kd.N_alloc | apply Kd.N_drewN | apply Kd.N_drew)); exact Kd.N_mono HO_18.out (fun _ hk => ⟨⟨hk.1, ⟨hk.2.2.1, ⟨hk.2.2.2.1, ⟨hk.2.2.2.2.1, hk.2.2.2.2.2⟩⟩⟩⟩, hk.2.1⟩)) hg hat); replace HO_25 := Aside0.mk (Kd.N_afterv (ok := (fun k_ => (w.heap.size ≤ k_) ∧ some k_ ≠ (.slice (some ad274) t268.length co9 : Value).ownBlock ∧ some k_ ≠ (.slice Ao24 t279.length co24 : Value).ownBlock ∧ some k_ ≠ (.slice Ao26 t282.length co26 : Value).ownBlock ∧ k_ ≠ gb286)) (by (with_reducible repeat (first | apply Kd.N_alloc | apply Kd.N_drewN | apply Kd.N_drew)); exact Kd.N_mono HO_25.out (fun _ hk => ⟨⟨hk.1, ⟨hk.2.2.1, ⟨hk.2.2.2.1, ⟨hk.2.2.2.2.1, hk.2.2.2.2.2⟩⟩⟩⟩, hk.2.1⟩)) hg hat); replace HL278_0 := Aside0.mk (Kd.V_afterv (ok := (fun k_ => (w.heap.size ≤ k_) ∧ some k_ ≠ (.slice (some ad274) t268.length co9 : Value).ownBlock ∧ some k_ ≠ (.slice (some ad278) t275.length co15 : Value).ownBlock ∧ some k_ ≠ (.slice Ao24 t279.length co24 : Value).ownBlock ∧ some k_ ≠ (.slice Ao26 t282.length co26 : Value).ownBlock ∧ k_ ≠ gb286)) (by (with_reducible repeat (first | apply Kd.V_alloc | apply Kd.V_drewN | apply Kd.V_drew)); exact Kd.V_mono HL278_0.out (fun _ hk => ⟨⟨hk.1, ⟨hk.2.2.1, ⟨hk.2.2.2.1, ⟨hk.2.2.2.2.1, ⟨hk.2.2.2.2.2.1, hk.2.2.2.2.2.2⟩⟩⟩⟩⟩, hk.2.1⟩)) hg hat); replace BK286 := Aside0.mk (blk_grown (kk_ BK286) hg (Kd.S_away HO_3.out (fun _ hk => hk.2.2.2.2.2))); replace HB := Aside0.mk hb; have HO289 := Aside0.mk ho; clear HO_3 HO281 HO284; clear ho hb hg hat))
                      go_roundg k3
                      case measure => have := HJ1.out; have := HK2.out; have := HK3.out; omega
                      case rel => exact ⟨(y287), (wrap64 (x27_3 + 1)), qc_, H', ⟨by have := HJ1.out; have := HK2.out; have := HK3.out; omega⟩, ⟨(sw_ (Kd.S_mono HO289.out (fun _ hk => ⟨hk.1, ⟨hk.2.1, hk.2.2.1⟩⟩)))⟩, ⟨by (with_reducible repeat (first | apply Kd.V_alloc | apply Kd.V_drewN | apply Kd.V_drew)); exact Kd.V_mono HO_5.out (fun _ hk => ⟨hk.1.1, ⟨hk.2, ⟨hk.1.2.1, hk.1.2.2.1⟩⟩⟩)⟩, ⟨by (with_reducible repeat (first | apply Kd.N_alloc | apply Kd.N_drewN | apply Kd.N_drew)); exact Kd.N_mono HO_18.out (fun _ hk => ⟨hk.1.1, ⟨hk.2, hk.1.2.1⟩⟩)⟩, ⟨by (with_reducible repeat (first | apply Kd.N_alloc | apply Kd.N_drewN | apply Kd.N_drew)); exact Kd.N_mono HO_25.out (fun _ hk => ⟨hk.1.1, ⟨hk.2, hk.1.2.1⟩⟩)⟩, ⟨hB_⟩⟩
                    · replace c20 := Bool.eq_false_iff.mpr c20
                      subst c20
                      have H1 : (impl_SurfacesWith.l1 k3 a0 x3_3 (rd_L5 t268 x20_2) t268 (t268.length : Int) x20_2 t275 (t275.length : Int) (wrap64 (x27_3 + 1))) = some r := by rw [if_neg (show ¬ (false = true) by decide)] at H; exact H
                      clear H
                      have H := H1
                      clear H1
                      have H' := Aside0.mk H
                      clear H
                      have p278 : 0 ≤ (x27_3 : Int) := of_decide_eq_true qe_
                      have q278 : x27_3 < (t275.length : Int) := of_decide_eq_true qe_
                      obtain ⟨ad278, A278_0, c278_0, e278, hx278_0, hl278_0, hi278_0⟩ := at_L5 (Kd.N_reads' HO_25.out).2.2 x27_3 p278 q278
                      cases e278
                      obtain ⟨ce278, hce278, hMe278, hcc278⟩ := Kd.N_get HO_25.out [] x27_3 p278 (by first | exact q278 | exact of_decide_eq_true qe_ | (have e_ := (Kd.N_reads' HO_25.out).1; omega))
                      obtain ⟨ua278_0, uc278_0, rfl, ul278_0, ge278_0⟩ := Kd.FK_slice_open hMe278
                      have hv278_0 := hcc278 0 _ rfl
                      rw [Nat.add_zero, show ((Kd.slice 3 (Kd.int .i64))).sz = 1 from rfl, Nat.mul_one] at hv278_0
                      replace hv278_0 := Option.some.inj (hv278_0.symm.trans hx278_0)
                      injection hv278_0 with hva_ hvn_ hvc_
                      rw [hva_] at ge278_0
                      rw [hvc_] at ul278_0
                      have HL278_0 := Aside0.mk (show Kd.V (Kd.int .i64) 3 _ w.heap.size _ _ (rd_L5 t275 x27_3) from Kd.V_mk ul278_0 ge278_0)
                      clear hva_ hvn_ hvc_ ge278_0 ul278_0
                      clear hcc278 hce278
                      have HR278_0 := Aside0.mk hi278_0
                      have HC278_0 := Aside0.mk hl278_0
                      clear hi278_0 hl278_0
                      replace p278 := eq_true p278
                      replace q278 := eq_true q278
                      go_wp2_with (first | ((with_reducible refine gate_callee (f := 17) rfl ?_); refine gL_ (some 35) Try.func17 #[.agg #[.slice A274_0 (rd_L5 t268 x20_2).length c274_0, .slice A278_0 (rd_L5 t275 x27_3).length c278_0]] rfl qa_ ?_; (with_reducible refine (impl_CanonOf.calls k3 _ _ (rd_L5 t268 x20_2) _ _ (rd_L5 t275 x27_3) t279 t282 false _ ?side1 ?side2 ?side3 ?side4 A19.out).mono ?_); (case side1 => exact cw_ ((Kd.V_reads' HO_5.out).2.2)); (case side2 => exact (Kd.V_reads' HO_5.out).2.1); (case side3 => repeat (first | exact (by repeat (first | (with_reducible exact HR278_0.out) | (with_reducible refine Kd.C_alloc ?_ _) | (with_reducible refine Kd.C_drewN ?_ _) | (with_reducible refine Kd.C_drew ?_) | exact HR278_0.out)) | (with_reducible refine Kd.C_alloc ?_ _) | (with_reducible refine Kd.C_drewN ?_ _) | (with_reducible refine Kd.C_drew ?_))); (case side4 => exact HC278_0.out); rintro e w30 ⟨v280, v283, rfl, ho0, ho1, hb⟩; refine ⟨_, rfl, ?_⟩; replace HO_3 := Aside0.mk (Kd.S_mono (Kd.S_told (Kd.S_told (Kd.S_old (ss_ HO_3) hb) (Kd.R_base ho0)) (Kd.R_base ho1)) (fun _ h_ => h_.1)); replace HO_5 := Aside0.mk (Kd.V_mono (Kd.V_told (Kd.V_told (Kd.V_old (by (with_reducible repeat (first | apply Kd.V_alloc | apply Kd.V_drewN | apply Kd.V_drew)); exact HO_5.out) hb) (Kd.R_base ho0)) (Kd.R_base ho1)) (fun _ h_ => h_.1)); replace HO_18 := Aside0.mk (Kd.N_mono (Kd.N_told (Kd.N_told (Kd.N_old (by (with_reducible repeat (first | apply Kd.N_alloc | apply Kd.N_drewN | apply Kd.N_drew)); exact HO_18.out) hb) (Kd.R_base ho0)) (Kd.R_base ho1)) (fun _ h_ => h_.1)); replace HO_25 := Aside0.mk (Kd.N_mono (Kd.N_told (Kd.N_told (Kd.N_old (by (with_reducible repeat (first | apply Kd.N_alloc | apply Kd.N_drewN | apply Kd.N_drew)); exact HO_25.out) hb) (Kd.R_base ho0)) (Kd.R_base ho1)) (fun _ h_ => h_.1)); replace HL278_0 := Aside0.mk (Kd.V_mono (Kd.V_told (Kd.V_told (Kd.V_old (by (with_reducible repeat (first | apply Kd.V_alloc | apply Kd.V_drewN | apply Kd.V_drew)); exact HL278_0.out) hb) (Kd.R_base ho0)) (Kd.R_base ho1)) (fun _ h_ => h_.1)); have HO281 := Aside0.mk (Kd.R_lower (Kd.R_newM (M := fun k_ => (w.heap.size ≤ k_)) ho0 (below_size hB_) (fun k_ h_ => h_)) (below_size hB_)); have HO284 := Aside0.mk (Kd.R_lower (Kd.R_newM (M := fun k_ => (w.heap.size ≤ k_)) ho1 (below_size hB_) (fun k_ h_ => h_)) (below_size hB_)); replace HR278_0 := Aside0.mk (Kd.C_below (by repeat (first | (with_reducible exact HR278_0.out) | (with_reducible refine Kd.C_alloc ?_ _) | (with_reducible refine Kd.C_drewN ?_ _) | (with_reducible refine Kd.C_drew ?_) | exact HR278_0.out)) hb); replace HB := b1_ hb; clear hb ho0 ho1) | ((with_reducible refine gate_dst (N := 8) rfl ?_); refine bx_ 8 #[.slice none 0 0, .slice none 0 0] 33 ?_; intro gb286 hg w31 hbox hb; replace HO_3 := Aside0.mk (Kd.S_below (Kd.S_elderB (ss_ HO_3) gb286 (Nat.le_of_eq hg.symm)) hb); replace HO_5 := Aside0.mk (Kd.V_below (Kd.V_elderB (by (with_reducible repeat (first | apply Kd.V_alloc | apply Kd.V_drewN | apply Kd.V_drew)); exact HO_5.out) gb286 (Nat.le_of_eq hg.symm)) hb); replace HO_18 := Aside0.mk (Kd.N_below (Kd.N_elderB (by (with_reducible repeat (first | apply Kd.N_alloc | apply Kd.N_drewN | apply Kd.N_drew)); exact HO_18.out) gb286 (Nat.le_of_eq hg.symm)) hb); replace HO_25 := Aside0.mk (Kd.N_below (Kd.N_elderB (by (with_reducible repeat (first | apply Kd.N_alloc | apply Kd.N_drewN | apply Kd.N_drew)); exact HO_25.out) gb286 (Nat.le_of_eq hg.symm)) hb); replace HL278_0 := Aside0.mk (Kd.V_below (Kd.V_elderB (by (with_reducible repeat (first | apply Kd.V_alloc | apply Kd.V_drewN | apply Kd.V_drew)); exact HL278_0.out) gb286 (Nat.le_of_eq hg.symm)) hb); replace HO281 := rb_ HO281 hb; replace HO284 := rb_ HO284 hb; replace HR278_0 := Aside0.mk (Kd.C_below (by repeat (first | (with_reducible exact HR278_0.out) | (with_reducible refine Kd.C_alloc ?_ _) | (with_reducible refine Kd.C_drewN ?_ _) | (with_reducible refine Kd.C_drew ?_) | exact HR278_0.out)) hb); have BK286 := Aside0.mk hbox; have GW286 := gw_ w hg; have GE286 := GW286; replace HB := b1_ hb; clear hb hbox hg; obtain ⟨Ao32, co32, eo32⟩ := Kd.R_slice HO281.out; subst eo32; obtain ⟨hcz33_0, hcz33_1, hfz33_0, hfz33_1⟩ := c2_ BK286; obtain ⟨Ao34, co34, eo34⟩ := Kd.R_slice HO284.out; subst eo34))
                      go_roundg k3
                      case measure => have := HJ1.out; have := HK2.out; have := HK3.out; omega
                      case rel => exact ⟨(x3_3), (wrap64 (x27_3 + 1)), qc_, H', ⟨by have := HJ1.out; have := HK2.out; have := HK3.out; omega⟩, ⟨(sw_ (Kd.S_mono (Kd.S_far (p := ⟨gb286, 1, none⟩) (Kd.S_far (p := ⟨gb286, 0, none⟩) (Kd.S_mono HO_3.out (fun k_ hk => (⟨hk, hk.2⟩ : _ ∧ k_ ≠ gb286))) (fun _ hk => hk.2) (.slice Ao32 t279.length co32)) (fun _ hk => hk.2) (.slice Ao34 t282.length co34)) (fun _ hk => ⟨hk.1.1.1.1.1, ⟨hk.1.1.1.1.2.1, hk.1.1.1.1.2.2⟩⟩)))⟩, ⟨by (with_reducible repeat (first | apply Kd.V_alloc | apply Kd.V_drewN | apply Kd.V_drew)); exact Kd.V_mono (Kd.V_far (p := ⟨gb286, 1, none⟩) (Kd.V_far (p := ⟨gb286, 0, none⟩) (Kd.V_mono HO_5.out (fun k_ hk => (⟨hk, hk.2⟩ : _ ∧ k_ ≠ gb286))) (fun _ hk => hk.2) (.slice Ao32 t279.length co32)) (fun _ hk => hk.2) (.slice Ao34 t282.length co34)) (fun _ hk => ⟨hk.1.1.1.1.1, ⟨hk.1.1.1.1.2.1, ⟨hk.1.1.1.1.2.2.1, hk.1.1.1.1.2.2.2⟩⟩⟩)⟩, ⟨by (with_reducible repeat (first | apply Kd.N_alloc | apply Kd.N_drewN | apply Kd.N_drew)); exact Kd.N_mono (Kd.N_far (p := ⟨gb286, 1, none⟩) (Kd.N_far (p := ⟨gb286, 0, none⟩) (Kd.N_mono HO_18.out (fun k_ hk => (⟨hk, hk.2⟩ : _ ∧ k_ ≠ gb286))) (fun _ hk => hk.2) (.slice Ao32 t279.length co32)) (fun _ hk => hk.2) (.slice Ao34 t282.length co34)) (fun _ hk => ⟨hk.1.1.1.1.1, ⟨hk.1.1.1.1.2.1, hk.1.1.1.1.2.2⟩⟩)⟩, ⟨by (with_reducible repeat (first | apply Kd.N_alloc | apply Kd.N_drewN | apply Kd.N_drew)); exact Kd.N_mono (Kd.N_far (p := ⟨gb286, 1, none⟩) (Kd.N_far (p := ⟨gb286, 0, none⟩) (Kd.N_mono HO_25.out (fun k_ hk => (⟨hk, hk.2⟩ : _ ∧ k_ ≠ gb286))) (fun _ hk => hk.2) (.slice Ao32 t279.length co32)) (fun _ hk => hk.2) (.slice Ao34 t282.length co34)) (fun _ hk => ⟨hk.1.1.1.1.1, ⟨hk.1.1.1.1.2.1, hk.1.1.1.1.2.2⟩⟩)⟩, ⟨hB_⟩⟩
                  · rw [if_neg c16] at H
                    have c16b0 := decide_eq_false c16
                    clear c16
                    have H' := Aside0.mk H
                    clear H
                    go_wp2
                    go_roundg k3
                    case measure => have := HJ1.out; have := HK2.out; have := HK3.out; omega
                    case rel => exact ⟨(x3_3), (wrap64 (x20_2 + 1)), qc_, H', ⟨by have := HJ1.out; have := HK2.out; have := HK3.out; omega⟩, ⟨(sw_ (Kd.S_mono HO_3.out (fun _ hk => ⟨hk.1, hk.2.1⟩)))⟩, ⟨by (with_reducible repeat (first | apply Kd.N_alloc | apply Kd.N_drewN | apply Kd.N_drew)); exact Kd.N_mono HO_18.out (fun _ hk => ⟨hk.1, hk.2.1⟩)⟩, ⟨hB_⟩⟩
            · rw [if_neg c10] at H
              have c10b0 := decide_eq_false c10
              clear c10
              obtain ⟨t271, A35, H⟩ := bi_ H
              obtain rfl := Option.some.inj H
              obtain ⟨Ao36, co36, eo36⟩ := Kd.S_slice HO_3.out
              subst eo36
              have HZ := Aside0.mk (impl_sortSurfaces.callsS _ _ _ _ w _ HB.out HO_3.out A35.out)
              go_wp2_with (first | ((with_reducible refine gate_callee (f := 51) rfl ?_); refine gL_ (some 46) Try.func51 #[.slice Ao36 x3_2.length co36] rfl qa_ ?_; (with_reducible refine HZ.out.mono ?_); rintro e wZ ⟨vZ, rfl, hoZ, hbZ, hkZ⟩; refine ⟨_, rfl, ?_⟩; have HO273 := Aside0.mk hoZ; replace HB := Aside0.mk hbZ; clear hoZ hbZ hkZ))
              go_ret
              exact ⟨_, qb_, (sw_ (Kd.S_mono HO273.out (fun _ hk => by first | exact hk | exact hk.1))), hB_⟩
end Go.Proofs.Ytoijcallajegfaa.A
end
section
namespace Go.Proofs.Ytoijcallajegfaa.A
open Go.RowKit Go.Proofs.YtoijcallajegfaaW.PrintWords Go.Proofs.YtoijcallajegfaaW.PrintLast Go.Proofs.YtoijcallajegfaaW.PrintMore
attribute [local go_sem] max2_int min2_int max_two min_two max_three min_three max_four min_four
set_option linter.unusedVariables false
set_option linter.unusedSimpArgs false
mutual
def spec_l10Perms.l0 : Nat → Int → List (List Int) → Int → Option ((List (List Int)))
  | 0, _, _, _ => none
  | k + 1, x0, x3, x4 => if x4 < x0 then (spec_l10Perms.l1 k x0 x4 (([] : List (List Int))) x3 (x3.length : Int) 0) else (some x3)
def spec_l10Perms.l1 : Nat → Int → Int → List (List Int) → List (List Int) → Int → Int → Option ((List (List Int)))
  | 0, _, _, _, _, _, _ => none
  | k + 1, x0, x4, x5, x17, x18, x19 => if x19 < x18 then (if 0 ≤ x19 then (if x19 < (x17.length : Int) then (spec_l10Perms.l2 k x0 x4 x5 (rd_L5 x17 x19) 0 x17 x18 x19) else (none)) else (none)) else (spec_l10Perms.l0 k x0 x5 (wrap64 (x4 + 1)))
def spec_l10Perms.l2 : Nat → Int → Int → List (List Int) → List Int → Int → List (List Int) → Int → Int → Option ((List (List Int)))
  | 0, _, _, _, _, _, _, _, _ => none
  | k + 1, x0, x4, x5, x7, x8, x17, x18, x19 => if x8 < x0 then ((spec_l02Has.f k x7 x8).bind fun t1155 => (if t1155 = true then (spec_l10Perms.l2 k x0 x4 x5 x7 (wrap64 (x8 + 1)) x17 x18 x19) else ((some (([] : List Int) : List Int)).bind fun y1156 => (if y1156.length + x7.length < 17592186044416 then ((some (y1156 ++ x7 : List Int)).bind fun y1159 => (if y1159.length < 17592186044416 then (if x5.length < 5864062014805 then (spec_l10Perms.l2 k x0 x4 (x5 ++ [(y1159 ++ [x8])]) x7 (wrap64 (x8 + 1)) x17 x18 x19) else (none)) else (none))) else (none))))) else (spec_l10Perms.l1 k x0 x4 x5 x17 x18 (wrap64 (x19 + 1)))
end
def spec_l10Perms.f (k : Nat) (a0 : Int) : Option ((List (List Int))) := spec_l10Perms.l0 k a0 (([(([] : List Int))] : List (List Int))) 0
theorem spec_l10Perms.mono_l : ∀ k, (∀ y0 y1 y2, LeO (spec_l10Perms.l0 k y0 y1 y2) (spec_l10Perms.l0 (k + 1) y0 y1 y2)) ∧ (∀ y0 y1 y2 y3 y4 y5, LeO (spec_l10Perms.l1 k y0 y1 y2 y3 y4 y5) (spec_l10Perms.l1 (k + 1) y0 y1 y2 y3 y4 y5)) ∧ (∀ y0 y1 y2 y3 y4 y5 y6 y7, LeO (spec_l10Perms.l2 k y0 y1 y2 y3 y4 y5 y6 y7) (spec_l10Perms.l2 (k + 1) y0 y1 y2 y3 y4 y5 y6 y7))
  | 0 => ⟨fun _ _ _ r h => by simp [spec_l10Perms.l0] at h, fun _ _ _ _ _ _ r h => by simp [spec_l10Perms.l1] at h, fun _ _ _ _ _ _ _ _ r h => by simp [spec_l10Perms.l2] at h⟩
  | k + 1 => by
    obtain ⟨ih0, ih1, ih2⟩ := spec_l10Perms.mono_l k
    refine ⟨?_, ?_, ?_⟩
    · intro y0 y1 y2
      unfold spec_l10Perms.l0
      repeat' first|exact ih0 _ _ _|exact ih1 _ _ _ _ _ _|exact ih2 _ _ _ _ _ _ _ _|exact spec_l02Has.mono _ _ _|exact lo_|refine LeO.ite ?_ ?_|refine LeO.bind ?_ (fun _ => ?_)
    · intro y0 y1 y2 y3 y4 y5
      unfold spec_l10Perms.l1
      repeat' first|exact ih0 _ _ _|exact ih1 _ _ _ _ _ _|exact ih2 _ _ _ _ _ _ _ _|exact spec_l02Has.mono _ _ _|exact lo_|refine LeO.ite ?_ ?_|refine LeO.bind ?_ (fun _ => ?_)
    · intro y0 y1 y2 y3 y4 y5 y6 y7
      unfold spec_l10Perms.l2
      repeat' first|exact ih0 _ _ _|exact ih1 _ _ _ _ _ _|exact ih2 _ _ _ _ _ _ _ _|exact spec_l02Has.mono _ _ _|exact lo_|refine LeO.ite ?_ ?_|refine LeO.bind ?_ (fun _ => ?_)
theorem spec_l10Perms.mono : ∀ a0 k, LeO (spec_l10Perms.f k a0) (spec_l10Perms.f (k + 1) a0) := by
  intro a0 k
  obtain ⟨ih0, ih1, ih2⟩ := spec_l10Perms.mono_l k
  unfold spec_l10Perms.f
  repeat' first|exact ih0 _ _ _|exact ih1 _ _ _ _ _ _|exact ih2 _ _ _ _ _ _ _ _|exact spec_l02Has.mono _ _ _|exact lo_|refine LeO.ite ?_ ?_|refine LeO.bind ?_ (fun _ => ?_)
set_option maxHeartbeats 8000000 in
set_option maxRecDepth 100000 in
theorem spec_l10Perms.calls (k : Nat) (a0 : Int) (r : List (List Int)) (w : World) (h : spec_l10Perms.f k a0 = some r) :
    Calls Try.prog 84 #[.int .i64 a0] w fun e w' => ∃ v0_ : Value, e = .returned (v0_) ∧ Kd.N (Kd.slice 3 (Kd.int .i64)) 23 w' w.heap.size (fun k_ => (w.heap.size ≤ k_)) v0_ r ∧ Below w.heap.size w w' := by
  have HB := Aside0.mk (Below.refl w.heap.size w)
  have H := h
  unfold spec_l10Perms.f at H
  clear h
  obtain ⟨y1145, hy1145⟩ : ∃ y_ : List Int, y_ = (([] : List Int)) := ⟨_, rfl⟩
  replace H : (spec_l10Perms.l0 k a0 (([y1145] : List (List Int))) 0) = some r := by first | (rw [hy1145]; exact H) | exact H
  have Ny1145 := Aside0.mk hy1145
  clear hy1145
  obtain ⟨y1148, hy1148⟩ : ∃ y_ : List (List Int), y_ = (([y1145] : List (List Int))) := ⟨_, rfl⟩
  replace H : (spec_l10Perms.l0 k a0 y1148 0) = some r := by first | (rw [hy1148]; exact H) | exact H
  have Ny1148 := Aside0.mk hy1148
  clear hy1148
  have H' := Aside0.mk H
  clear H
  go_enter Try.func84, Try.ntmps84
  go_wp2_with (first | ((with_reducible refine gate_dst (N := 9) rfl ?_); refine Kd.R_lit (Kd.int .i64) _ 3 ?hg (N := 9) ?hd (xs := ([] : List Int)) (inner := []) (ok := fun _ => True) (okp := fun _ => True) ?hr ?hp (fun _ hk => hk) trivial (Below.refl _ _) (Nat.le_refl _) (by simp) ?_; (case hd => rfl); (case hg => rfl); (case hr => first | (go_simp; done) | (go_simp; rfl)); (case hp => exact (Reps.none _ _)); intro v1146 w2 ho3 hb hg_ hnew_; clear hg_ hnew_; (first | rw [← Ny1145.out] at ho3 | (simp only [Int.reduceToNat] at ho3; rw [← Ny1145.out] at ho3)); have HO1147 := Aside0.mk (Kd.R_lower (Kd.R_newM (M := fun k_ => (w.heap.size ≤ k_)) ho3 (below_size hB_) (fun k_ h_ => h_)) (below_size hB_)); replace HB := b1_ hb; clear hb ho3; obtain ⟨Ao4, co4, eo4⟩ := Kd.R_slice HO1147.out; subst eo4) | ((with_reducible refine gate_dst (N := 10) rfl ?_); refine Kd.N_lit (Kd.slice 3 (Kd.int .i64)) _ 23 ?hg (N' := 10) ?hd (xs := ([y1145] : List (List Int))) (inner := [.slice Ao4 y1145.length co4]) (ok := (fun k_ => (w.heap.size ≤ k_))) (okp := (fun k_ => (w.heap.size ≤ k_))) ?hr ?hp (fun _ hk => hk) ((show ∀ k_, w2.heap.size ≤ k_ → (fun k_ => (w.heap.size ≤ k_)) k_ from fun k_ hk => (Nat.le_trans (below_size hB_) hk)) _ (Nat.le_refl _)) (Below.refl _ _) (Nat.le_refl _) (by simp) ?_; (case hd => rfl); (case hg => rfl); (case hr => first | (go_simp; done) | (go_simp; rfl)); (case hp => exact (Reps.one (show Kd.FK (Kd.slice 3 (Kd.int .i64)) _ _ y1145 [.slice Ao4 y1145.length co4] from (Kd.FK_slice_mk (Kd.R_reads' (Kd.R_mono (ok' := (fun k_ => (w.heap.size ≤ k_))) (HO1147.out) (fun k_ hk => hk.1))).2.1 (Kd.R_F (Kd.R_mono (ok' := (fun k_ => (w.heap.size ≤ k_))) (HO1147.out) (fun k_ hk => hk.1))))) (Reps.none _ _))); intro v1149 w5 ho6 hb hg_ hnew_; clear hg_ hnew_; (first | rw [← Ny1148.out] at ho6 | (simp only [Int.reduceToNat] at ho6; rw [← Ny1148.out] at ho6)); have HO1150 := Aside0.mk (Kd.N_lower ho6 (below_size hB_)); replace HB := b1_ hb; clear HO1147; clear hb ho6))
  go_loopg [3, 4] k (fun kq v3 v4 w' => ∃ (x3_1 : List (List Int)) (x4_1 : Int), v4 = .int .i64 x4_1 ∧ Aside0 (spec_l10Perms.l0 kq a0 x3_1 x4_1 = some r) ∧ Aside0 (kq ≤ k) ∧ Aside0 (Kd.N (Kd.slice 3 (Kd.int .i64)) 23 w' w.heap.size (fun k_ => (w.heap.size ≤ k_)) v3 x3_1) ∧ Aside0 (Below w.heap.size w w'))
  case atStart => exact ⟨(y1148), (0), qc_, H', ⟨Nat.le_refl _⟩, ⟨by (with_reducible repeat (first | apply Kd.N_alloc | apply Kd.N_drewN | apply Kd.N_drew)); exact HO1150.out⟩, ⟨hB_⟩⟩
  case round =>
    clear H'
    obtain ⟨x3_1, x4_1, rfl, HA, HK1, HO_3, HB⟩ := hrel
    cases gk with
    | zero => exact absurd HA.out (by simp [spec_l10Perms.l0])
    | succ k1 =>
      have H := HA.out
      clear HA
      simp only [spec_l10Perms.l0] at H
      by_cases c7 : x4_1 < a0
      · rw [if_pos c7] at H
        have c7b0 := decide_eq_true c7
        clear c7
        obtain ⟨y1151, hy1151⟩ : ∃ y_ : List (List Int), y_ = (([] : List (List Int))) := ⟨_, rfl⟩
        replace H : (spec_l10Perms.l1 k1 a0 x4_1 y1151 x3_1 (x3_1.length : Int) 0) = some r := by first | (rw [hy1151]; exact H) | exact H
        have Ny1151 := Aside0.mk hy1151
        clear hy1151
        have H' := Aside0.mk H
        clear H
        go_wp2_with (first | ((with_reducible refine gate_dst (N := 16) rfl ?_); refine Kd.N_lit (Kd.slice 3 (Kd.int .i64)) _ 23 ?hg (N' := 16) ?hd (xs := ([] : List (List Int))) (inner := []) (ok := (fun k_ => (w.heap.size ≤ k_) ∧ some k_ ≠ (u3 : Value).ownBlock)) (okp := (fun k_ => (w.heap.size ≤ k_) ∧ some k_ ≠ (u3 : Value).ownBlock)) ?hr ?hp (fun _ hk => hk) ((show ∀ k_, wr.heap.size ≤ k_ → (fun k_ => (w.heap.size ≤ k_) ∧ some k_ ≠ (u3 : Value).ownBlock) k_ from fun k_ hk => ⟨(Nat.le_trans (below_size hB_) hk), Kd.fresh' (Kd.N_lt (by (with_reducible repeat (first | apply Kd.N_alloc | apply Kd.N_drewN | apply Kd.N_drew)); exact HO_3.out)) k_ hk⟩) _ (Nat.le_refl _)) (Below.refl _ _) (Nat.le_refl _) (by simp) ?_; (case hd => rfl); (case hg => rfl); (case hr => first | (go_simp; done) | (go_simp; rfl)); (case hp => exact (Reps.none _ _)); intro v1152 w8 ho9 hb hg_ hnew_; clear hg_ hnew_; (first | rw [← Ny1151.out] at ho9 | (simp only [Int.reduceToNat] at ho9; rw [← Ny1151.out] at ho9)); replace HO_3 := Aside0.mk (Kd.N_elder' (by (with_reducible repeat (first | apply Kd.N_alloc | apply Kd.N_drewN | apply Kd.N_drew)); exact HO_3.out) (Kd.N_base ho9) hb); have HO1153 := Aside0.mk (Kd.N_lower ho9 (below_size hB_)); replace HB := b1_ hb; clear hb ho9; obtain ⟨Ao10, co10, eo10⟩ := Kd.N_slice HO_3.out; subst eo10))
        go_loopg [5, 19] k1 (fun kq v5 v19 w' => ∃ (x5_2 : List (List Int)) (x19_2 : Int), v19 = .int .i64 x19_2 ∧ Aside0 (spec_l10Perms.l1 kq a0 x4_1 x5_2 x3_1 (x3_1.length : Int) x19_2 = some r) ∧ Aside0 (kq ≤ k1) ∧ Aside0 (Kd.N (Kd.slice 3 (Kd.int .i64)) 23 w' w.heap.size (fun k_ => (w.heap.size ≤ k_) ∧ some k_ ≠ ((.slice Ao10 x3_1.length co10) : Value).ownBlock) v5 x5_2) ∧ Aside0 (Kd.N (Kd.slice 3 (Kd.int .i64)) 23 w' w.heap.size (fun k_ => (w.heap.size ≤ k_) ∧ some k_ ≠ (v5 : Value).ownBlock) (.slice Ao10 x3_1.length co10) x3_1) ∧ Aside0 (Below w.heap.size w w'))
        case atStart => exact ⟨(y1151), (0), qc_, H', ⟨Nat.le_refl _⟩, ⟨by (with_reducible repeat (first | apply Kd.N_alloc | apply Kd.N_drewN | apply Kd.N_drew)); exact HO1153.out⟩, ⟨by (with_reducible repeat (first | apply Kd.N_alloc | apply Kd.N_drewN | apply Kd.N_drew)); exact HO_3.out⟩, ⟨hB_⟩⟩
        case round =>
          clear H'
          obtain ⟨x5_2, x19_2, rfl, HA, HK2, HO_5, HO_17, HB⟩ := hrel
          cases gk with
          | zero => exact absurd HA.out (by simp [spec_l10Perms.l1])
          | succ k2 =>
            have H := HA.out
            clear HA
            simp only [spec_l10Perms.l1] at H
            by_cases c11 : x19_2 < (x3_1.length : Int)
            · rw [if_pos c11] at H
              have c11b0 := decide_eq_true c11
              clear c11
              have c12 := cp_ H
              replace H := ca_ H
              have c12b0 := decide_eq_true c12
              clear c12
              have c13 := cp_ H
              replace H := ca_ H
              have c13b0 := decide_eq_true c13
              clear c13
              have H' := Aside0.mk H
              clear H
              have p1154 : 0 ≤ (x19_2 : Int) := of_decide_eq_true qe_
              have q1154 : x19_2 < (x3_1.length : Int) := of_decide_eq_true qe_
              obtain ⟨ad1154, A1154_0, c1154_0, e1154, hx1154_0, hl1154_0, hi1154_0⟩ := at_L5 (Kd.N_reads' HO_17.out).2.2 x19_2 p1154 q1154
              cases e1154
              obtain ⟨ce1154, hce1154, hMe1154, hcc1154⟩ := Kd.N_get HO_17.out [] x19_2 p1154 (by first | exact q1154 | exact of_decide_eq_true qe_ | (have e_ := (Kd.N_reads' HO_17.out).1; omega))
              obtain ⟨ua1154_0, uc1154_0, rfl, ul1154_0, ge1154_0⟩ := Kd.FK_slice_open hMe1154
              have hv1154_0 := hcc1154 0 _ rfl
              rw [Nat.add_zero, show ((Kd.slice 3 (Kd.int .i64))).sz = 1 from rfl, Nat.mul_one] at hv1154_0
              replace hv1154_0 := Option.some.inj (hv1154_0.symm.trans hx1154_0)
              injection hv1154_0 with hva_ hvn_ hvc_
              rw [hva_] at ge1154_0
              rw [hvc_] at ul1154_0
              have HL1154_0 := Aside0.mk (show Kd.V (Kd.int .i64) 3 _ w.heap.size _ _ (rd_L5 x3_1 x19_2) from Kd.V_mk ul1154_0 ge1154_0)
              clear hva_ hvn_ hvc_ ge1154_0 ul1154_0
              clear hcc1154 hce1154
              have HR1154_0 := Aside0.mk hi1154_0
              have HC1154_0 := Aside0.mk hl1154_0
              clear hi1154_0 hl1154_0
              replace p1154 := eq_true p1154
              replace q1154 := eq_true q1154
              go_wp2
              go_loopg [5, 8] k2 (fun kq v5 v8 w' => ∃ (x5_3 : List (List Int)) (x8_3 : Int), v8 = .int .i64 x8_3 ∧ Aside0 (spec_l10Perms.l2 kq a0 x4_1 x5_3 (rd_L5 x3_1 x19_2) x8_3 x3_1 (x3_1.length : Int) x19_2 = some r) ∧ Aside0 (kq ≤ k2) ∧ Aside0 (Kd.N (Kd.slice 3 (Kd.int .i64)) 23 w' w.heap.size (fun k_ => (w.heap.size ≤ k_) ∧ some k_ ≠ ((.slice (some ad1154) x3_1.length co10) : Value).ownBlock) v5 x5_3) ∧ Aside0 (Kd.V (Kd.int .i64) 3 w' w.heap.size (fun k_ => (w.heap.size ≤ k_) ∧ some k_ ≠ (v5 : Value).ownBlock ∧ some k_ ≠ ((.slice (some ad1154) x3_1.length co10) : Value).ownBlock) (.slice A1154_0 (rd_L5 x3_1 x19_2).length c1154_0) (rd_L5 x3_1 x19_2)) ∧ Aside0 (Kd.N (Kd.slice 3 (Kd.int .i64)) 23 w' w.heap.size (fun k_ => (w.heap.size ≤ k_) ∧ some k_ ≠ (v5 : Value).ownBlock) (.slice (some ad1154) x3_1.length co10) x3_1) ∧ Aside0 (Below w.heap.size w w'))
              case atStart => exact ⟨(x5_2), (0), qc_, H', ⟨Nat.le_refl _⟩, ⟨by (with_reducible repeat (first | apply Kd.N_alloc | apply Kd.N_drewN | apply Kd.N_drew)); exact HO_5.out⟩, ⟨by (with_reducible repeat (first | apply Kd.V_alloc | apply Kd.V_drewN | apply Kd.V_drew)); exact Kd.V_mono HL1154_0.out (fun _ hk => ⟨hk.1.1, ⟨hk.1.2, hk.2⟩⟩)⟩, ⟨by (with_reducible repeat (first | apply Kd.N_alloc | apply Kd.N_drewN | apply Kd.N_drew)); exact HO_17.out⟩, ⟨hB_⟩⟩
              case round =>
                clear H'
                obtain ⟨x5_3, x8_3, rfl, HA, HK3, HO_5, HO_7, HO_17, HB⟩ := hrel
                cases gk with
                | zero => exact absurd HA.out (by simp [spec_l10Perms.l2])
                | succ k3 =>
                  have H := HA.out
                  clear HA
                  simp only [spec_l10Perms.l2] at H
                  by_cases c14 : x8_3 < a0
                  · rw [if_pos c14] at H
                    have c14b0 := decide_eq_true c14
                    clear c14
                    obtain ⟨t1155, A15, H⟩ := bi_ H
                    by_cases c16 : t1155 = true
                    · subst c16
                      rw [if_pos rfl] at H
                      have H' := Aside0.mk H
                      clear H
                      go_wp2_with (first | ((with_reducible refine gate_callee (f := 126) rfl ?_); refine gL_ (some 30) Try.func126 #[.slice A1154_0 (rd_L5 x3_1 x19_2).length c1154_0, .int .i64 x8_3] rfl qa_ ?_; (with_reducible refine (spec_l02Has.calls k3 _ _ (rd_L5 x3_1 x19_2) x8_3 true _ (cw_ ((Kd.V_reads' HO_7.out).2.2)) ((Kd.V_reads' HO_7.out).2.1) A15.out).mono ?_); rintro e w' ⟨rfl, ⟨nd, rfl⟩⟩; refine ⟨_, rfl, ?_⟩))
                      go_roundg k3
                      case measure => have := HK1.out; have := HK2.out; have := HK3.out; omega
                      case rel => exact ⟨(x5_3), (wrap64 (x8_3 + 1)), qc_, H', ⟨by have := HK1.out; have := HK2.out; have := HK3.out; omega⟩, ⟨by (with_reducible repeat (first | apply Kd.N_alloc | apply Kd.N_drewN | apply Kd.N_drew)); exact HO_5.out⟩, ⟨by (with_reducible repeat (first | apply Kd.V_alloc | apply Kd.V_drewN | apply Kd.V_drew)); exact HO_7.out⟩, ⟨by (with_reducible repeat (first | apply Kd.N_alloc | apply Kd.N_drewN | apply Kd.N_drew)); exact HO_17.out⟩, ⟨hB_⟩⟩
                    · replace c16 := Bool.eq_false_iff.mpr c16
                      subst c16
                      have H1 : ((some (([] : List Int) : List Int)).bind fun y1156 => (if y1156.length + (rd_L5 x3_1 x19_2).length < 17592186044416 then ((some (y1156 ++ (rd_L5 x3_1 x19_2) : List Int)).bind fun y1159 => (if y1159.length < 17592186044416 then (if x5_3.length < 5864062014805 then (spec_l10Perms.l2 k3 a0 x4_1 (x5_3 ++ [(y1159 ++ [x8_3])]) (rd_L5 x3_1 x19_2) (wrap64 (x8_3 + 1)) x3_1 (x3_1.length : Int) x19_2) else (none)) else (none))) else (none))) = some r := by rw [if_neg (show ¬ (false = true) by decide)] at H; exact H
                      clear H
                      have H := H1
                      clear H1
                      obtain ⟨y1156, hy1156⟩ : ∃ y_ : List Int, y_ = (([] : List Int)) := ⟨_, rfl⟩
                      replace H : (if y1156.length + (rd_L5 x3_1 x19_2).length < 17592186044416 then ((some (y1156 ++ (rd_L5 x3_1 x19_2) : List Int)).bind fun y1159 => (if y1159.length < 17592186044416 then (if x5_3.length < 5864062014805 then (spec_l10Perms.l2 k3 a0 x4_1 (x5_3 ++ [(y1159 ++ [x8_3])]) (rd_L5 x3_1 x19_2) (wrap64 (x8_3 + 1)) x3_1 (x3_1.length : Int) x19_2) else (none)) else (none))) else (none)) = some r := by first | (rw [hy1156]; exact H) | exact H
                      have Ny1156 := Aside0.mk hy1156
                      clear hy1156
                      have c17 := cp_ H
                      replace H := ca_ H
                      have LMc17 := Aside0.mk c17
                      clear c17
                      obtain ⟨y1159, hy1159⟩ : ∃ y_ : List Int, y_ = (y1156 ++ (rd_L5 x3_1 x19_2)) := ⟨_, rfl⟩
                      replace H : (if y1159.length < 17592186044416 then (if x5_3.length < 5864062014805 then (spec_l10Perms.l2 k3 a0 x4_1 (x5_3 ++ [(y1159 ++ [x8_3])]) (rd_L5 x3_1 x19_2) (wrap64 (x8_3 + 1)) x3_1 (x3_1.length : Int) x19_2) else (none)) else (none)) = some r := by first | (rw [hy1159]; exact H) | exact H
                      have Ny1159 := Aside0.mk hy1159
                      clear hy1159
                      have c18 := cp_ H
                      replace H := ca_ H
                      have LMc18 := Aside0.mk c18
                      clear c18
                      obtain ⟨y1162, hy1162⟩ : ∃ y_ : List Int, y_ = (y1159 ++ [x8_3]) := ⟨_, rfl⟩
                      replace H : (if x5_3.length < 5864062014805 then (spec_l10Perms.l2 k3 a0 x4_1 (x5_3 ++ [y1162]) (rd_L5 x3_1 x19_2) (wrap64 (x8_3 + 1)) x3_1 (x3_1.length : Int) x19_2) else (none)) = some r := by first | (rw [hy1162]; exact H) | exact H
                      have Ny1162 := Aside0.mk hy1162
                      clear hy1162
                      have c19 := cp_ H
                      replace H := ca_ H
                      have LMc19 := Aside0.mk c19
                      clear c19
                      obtain ⟨y1165, hy1165⟩ : ∃ y_ : List (List Int), y_ = (x5_3 ++ [y1162]) := ⟨_, rfl⟩
                      replace H : (spec_l10Perms.l2 k3 a0 x4_1 y1165 (rd_L5 x3_1 x19_2) (wrap64 (x8_3 + 1)) x3_1 (x3_1.length : Int) x19_2) = some r := by first | (rw [hy1165]; exact H) | exact H
                      have Ny1165 := Aside0.mk hy1165
                      clear hy1165
                      have H' := Aside0.mk H
                      clear H
                      go_wp2_with (first | ((with_reducible refine gate_callee (f := 126) rfl ?_); refine gL_ (some 30) Try.func126 #[.slice A1154_0 (rd_L5 x3_1 x19_2).length c1154_0, .int .i64 x8_3] rfl qa_ ?_; (with_reducible refine (spec_l02Has.calls k3 _ _ (rd_L5 x3_1 x19_2) x8_3 false _ (cw_ ((Kd.V_reads' HO_7.out).2.2)) ((Kd.V_reads' HO_7.out).2.1) A15.out).mono ?_); rintro e w' ⟨rfl, ⟨nd, rfl⟩⟩; refine ⟨_, rfl, ?_⟩) | ((with_reducible refine gate_dst (N := 33) rfl ?_); refine Kd.R_lit (Kd.int .i64) _ 3 ?hg (N := 33) ?hd (xs := ([] : List Int)) (inner := []) (ok := fun _ => True) (okp := fun _ => True) ?hr ?hp (fun _ hk => hk) trivial (Below.refl _ _) (Nat.le_refl _) (by simp) ?_; (case hd => rfl); (case hg => rfl); (case hr => first | (go_simp; done) | (go_simp; rfl)); (case hp => exact (Reps.none _ _)); intro v1157 w20 ho21 hb hg_ hnew_; clear hg_ hnew_; (first | rw [← Ny1156.out] at ho21 | (simp only [Int.reduceToNat] at ho21; rw [← Ny1156.out] at ho21)); replace HO_5 := Aside0.mk (Kd.N_elder' (by (with_reducible repeat (first | apply Kd.N_alloc | apply Kd.N_drewN | apply Kd.N_drew)); exact HO_5.out) (Kd.R_base ho21) hb); replace HO_7 := Aside0.mk (Kd.V_elder' (by (with_reducible repeat (first | apply Kd.V_alloc | apply Kd.V_drewN | apply Kd.V_drew)); exact HO_7.out) (Kd.R_base ho21) hb); replace HO_17 := Aside0.mk (Kd.N_elder' (by (with_reducible repeat (first | apply Kd.N_alloc | apply Kd.N_drewN | apply Kd.N_drew)); exact HO_17.out) (Kd.R_base ho21) hb); have HO1158 := Aside0.mk (Kd.R_lower (Kd.R_newM (M := fun k_ => (w.heap.size ≤ k_)) ho21 (below_size hB_) (fun k_ h_ => h_)) (below_size hB_)); replace HB := b1_ hb; clear hb ho21) | ((with_reducible refine gate_builtin (b := .append) (xs := #[.tmp 33, .tmp 34]) rfl ?_); at_builtin; refine Kd.R_append_rows (Kd.int .i64) (w0 := w) w.heap.size rfl (.tmp 33) (.tmp 34) 23 3 (.int .i64 0) 8 rfl Try.underlying23 info3 rfl (by decide) (by omega) v1157 y1156 (rd_L5 x3_1 x19_2) _ _ _ (fun k_ => (w.heap.size ≤ k_)) (fun _ => False) rfl rfl ?aO ?aR (fun _ _ h => h) (fun _ h => h.elim) ?aF ?aB ?aS ?aL ?_; (case aR => exact cw_ ((Kd.V_reads' HO_7.out).2.2)); (case aB => exact hB_); (case aF => exact (fun k_ hk => (Nat.le_trans (below_size hB_) hk))); (case aO => exact (rw_ (Kd.R_mono HO1158.out (fun _ hk => hk.1)))); (case aS => exact (below_size hB_)); (case aL => have := LMc17.out; omega); intro v1160 w22 ho hb hg hat; rw [← Ny1159.out] at ho; replace HO_5 := Aside0.mk (Kd.N_afterv (ok := (fun k_ => (w.heap.size ≤ k_) ∧ some k_ ≠ (.slice (some ad1154) x3_1.length co10 : Value).ownBlock)) (by (with_reducible repeat (first | apply Kd.N_alloc | apply Kd.N_drewN | apply Kd.N_drew)); exact HO_5.out) hg hat); replace HO_7 := Aside0.mk (Kd.V_afterv (ok := (fun k_ => (w.heap.size ≤ k_) ∧ some k_ ≠ (u5 : Value).ownBlock ∧ some k_ ≠ (.slice (some ad1154) x3_1.length co10 : Value).ownBlock)) (by (with_reducible repeat (first | apply Kd.V_alloc | apply Kd.V_drewN | apply Kd.V_drew)); exact HO_7.out) hg hat); replace HO_17 := Aside0.mk (Kd.N_afterv (ok := (fun k_ => (w.heap.size ≤ k_) ∧ some k_ ≠ (u5 : Value).ownBlock)) (by (with_reducible repeat (first | apply Kd.N_alloc | apply Kd.N_drewN | apply Kd.N_drew)); exact HO_17.out) hg hat); replace HB := Aside0.mk hb; have HO1161 := Aside0.mk ho; clear HO1158; clear ho hb hg hat) | ((with_reducible refine gate_builtin (b := .append) (xs := #[.tmp 35, .tmp 37]) rfl ?_); at_builtin; refine Kd.R_append (Kd.int .i64) (w0 := w) w.heap.size rfl (.tmp 35) (.tmp 37) 23 3 (.int .i64 0) 8 rfl Try.underlying23 info3 rfl (by decide) (by omega) v1160 y1159 x8_3 [.int .i64 x8_3] (fun k_ => (w.heap.size ≤ k_)) (fun _ => False) rfl rfl ?aP (fun _ hk => hk.elim) ?aF ?aO ?aB ?aS ?aL ?_; (case aP => exact rfl); (case aB => exact hB_); (case aF => exact (fun k_ hk => (Nat.le_trans (below_size hB_) hk))); (case aO => exact (rr_ HO1161)); (case aS => exact (below_size hB_)); (case aL => have := LMc18.out; omega); intro v1163 w23 ho hb hg hat; rw [← Ny1162.out] at ho; replace HO_5 := Aside0.mk (Kd.N_afterv (ok := (fun k_ => (w.heap.size ≤ k_) ∧ some k_ ≠ (.slice (some ad1154) x3_1.length co10 : Value).ownBlock)) (by (with_reducible repeat (first | apply Kd.N_alloc | apply Kd.N_drewN | apply Kd.N_drew)); exact HO_5.out) hg hat); replace HO_7 := Aside0.mk (Kd.V_afterv (ok := (fun k_ => (w.heap.size ≤ k_) ∧ some k_ ≠ (u5 : Value).ownBlock ∧ some k_ ≠ (.slice (some ad1154) x3_1.length co10 : Value).ownBlock)) (by (with_reducible repeat (first | apply Kd.V_alloc | apply Kd.V_drewN | apply Kd.V_drew)); exact HO_7.out) hg hat); replace HO_17 := Aside0.mk (Kd.N_afterv (ok := (fun k_ => (w.heap.size ≤ k_) ∧ some k_ ≠ (u5 : Value).ownBlock)) (by (with_reducible repeat (first | apply Kd.N_alloc | apply Kd.N_drewN | apply Kd.N_drew)); exact HO_17.out) hg hat); replace HB := Aside0.mk hb; have HO1164 := Aside0.mk ho; clear HO1161; clear ho hb hg hat; obtain ⟨Ao25, co25, eo25⟩ := Kd.R_slice HO1164.out; subst eo25) | ((with_reducible refine gate_builtin (b := .append) (xs := #[.tmp 32, .tmp 39]) rfl ?_); at_builtin; refine Kd.N_append (Kd.slice 3 (Kd.int .i64)) (w0 := w) w.heap.size rfl (.tmp 32) (.tmp 39) 28 23 (.slice none 0 0) 24 rfl Try.underlying28 info23 rfl (by decide) (by omega) u5 x5_3 y1162 [.slice Ao25 y1162.length co25] (fun k_ => (w.heap.size ≤ k_) ∧ some k_ ≠ (.slice (some ad1154) x3_1.length co10 : Value).ownBlock) (fun k_ => ((fun k_ => (w.heap.size ≤ k_) ∧ some k_ ≠ (.slice (some ad1154) x3_1.length co10 : Value).ownBlock)) k_ ∧ some k_ ≠ (u5 : Value).ownBlock) rfl rfl ?aP (fun _ hk => hk) ?aF ?aO ?aB ?aS ?aL ?_; (case aP => exact (Kd.FK_slice_mk (Kd.R_reads' (Kd.R_mono (ok' := (fun k_ => ((fun k_ => (w.heap.size ≤ k_) ∧ some k_ ≠ (.slice (some ad1154) x3_1.length co10 : Value).ownBlock)) k_ ∧ some k_ ≠ (u5 : Value).ownBlock)) (Kd.R_apart' (Kd.R_apart' (HO1164.out) (Kd.N_typed HO_17.out) (by decide)) (Kd.N_typed HO_5.out) (by decide)) (fun k_ hk => ⟨⟨hk.1.1, hk.1.2⟩, hk.2⟩))).2.1 (Kd.R_F (Kd.R_mono (ok' := (fun k_ => ((fun k_ => (w.heap.size ≤ k_) ∧ some k_ ≠ (.slice (some ad1154) x3_1.length co10 : Value).ownBlock)) k_ ∧ some k_ ≠ (u5 : Value).ownBlock)) (Kd.R_apart' (Kd.R_apart' (HO1164.out) (Kd.N_typed HO_17.out) (by decide)) (Kd.N_typed HO_5.out) (by decide)) (fun k_ hk => ⟨⟨hk.1.1, hk.1.2⟩, hk.2⟩))))); (case aB => exact hB_); (case aF => exact (fun k_ hk => ⟨(Nat.le_trans (below_size hB_) hk), Kd.fresh' (Kd.N_lt (by (with_reducible repeat (first | apply Kd.N_alloc | apply Kd.N_drewN | apply Kd.N_drew)); exact HO_17.out)) k_ hk⟩)); (case aO => exact (by (with_reducible repeat (first | apply Kd.N_alloc | apply Kd.N_drewN | apply Kd.N_drew)); exact Kd.N_mono HO_5.out (fun _ hk => ⟨hk.1.1, hk.1.2⟩))); (case aS => exact (below_size hB_)); (case aL => have := LMc19.out; omega); intro v1166 w24 ho hb hg hat; rw [← Ny1165.out] at ho; replace HO_7 := Aside0.mk (Kd.V_afterv (ok := (fun k_ => (w.heap.size ≤ k_) ∧ some k_ ≠ (.slice (some ad1154) x3_1.length co10 : Value).ownBlock ∧ some k_ ≠ (.slice Ao25 y1162.length co25 : Value).ownBlock)) (by (with_reducible repeat (first | apply Kd.V_alloc | apply Kd.V_drewN | apply Kd.V_drew)); exact Kd.V_mono HO_7.out (fun _ hk => ⟨⟨hk.1.1, ⟨hk.1.2.2, hk.2⟩⟩, hk.1.2.1⟩)) hg hat); replace HO_17 := Aside0.mk (Kd.N_afterv (ok := (fun k_ => (w.heap.size ≤ k_) ∧ some k_ ≠ (.slice Ao25 y1162.length co25 : Value).ownBlock)) (by (with_reducible repeat (first | apply Kd.N_alloc | apply Kd.N_drewN | apply Kd.N_drew)); exact Kd.N_mono HO_17.out (fun _ hk => ⟨⟨hk.1.1, hk.2⟩, hk.1.2⟩)) hg hat); replace HB := Aside0.mk hb; have HO1167 := Aside0.mk ho; clear HO_5 HO1164; clear ho hb hg hat))
                      go_roundg k3
                      case measure => have := HK1.out; have := HK2.out; have := HK3.out; omega
                      case rel => exact ⟨(y1165), (wrap64 (x8_3 + 1)), qc_, H', ⟨by have := HK1.out; have := HK2.out; have := HK3.out; omega⟩, ⟨by (with_reducible repeat (first | apply Kd.N_alloc | apply Kd.N_drewN | apply Kd.N_drew)); exact HO1167.out⟩, ⟨by (with_reducible repeat (first | apply Kd.V_alloc | apply Kd.V_drewN | apply Kd.V_drew)); exact Kd.V_mono HO_7.out (fun _ hk => ⟨hk.1.1, ⟨hk.2, hk.1.2.1⟩⟩)⟩, ⟨by (with_reducible repeat (first | apply Kd.N_alloc | apply Kd.N_drewN | apply Kd.N_drew)); exact Kd.N_mono HO_17.out (fun _ hk => ⟨hk.1.1, hk.2⟩)⟩, ⟨hB_⟩⟩
                  · rw [if_neg c14] at H
                    have c14b0 := decide_eq_false c14
                    clear c14
                    have H' := Aside0.mk H
                    clear H
                    go_wp2
                    go_roundg k3
                    case measure => have := HK1.out; have := HK2.out; have := HK3.out; omega
                    case rel => exact ⟨(x5_3), (wrap64 (x19_2 + 1)), qc_, H', ⟨by have := HK1.out; have := HK2.out; have := HK3.out; omega⟩, ⟨by (with_reducible repeat (first | apply Kd.N_alloc | apply Kd.N_drewN | apply Kd.N_drew)); exact HO_5.out⟩, ⟨by (with_reducible repeat (first | apply Kd.N_alloc | apply Kd.N_drewN | apply Kd.N_drew)); exact HO_17.out⟩, ⟨hB_⟩⟩
            · rw [if_neg c11] at H
              have c11b0 := decide_eq_false c11
              clear c11
              have H' := Aside0.mk H
              clear H
              go_wp2
              go_roundg k2
              case measure => have := HK1.out; have := HK2.out; omega
              case rel => exact ⟨(x5_2), (wrap64 (x4_1 + 1)), qc_, H', ⟨by have := HK1.out; have := HK2.out; omega⟩, ⟨by (with_reducible repeat (first | apply Kd.N_alloc | apply Kd.N_drewN | apply Kd.N_drew)); exact Kd.N_mono HO_5.out (fun _ hk => hk.1)⟩, ⟨hB_⟩⟩
      · rw [if_neg c7] at H
        have c7b0 := decide_eq_false c7
        clear c7
        obtain rfl := Option.some.inj H
        go_wp2
        go_ret
        exact ⟨_, qb_, by (with_reducible repeat (first | apply Kd.N_alloc | apply Kd.N_drewN | apply Kd.N_drew)); exact HO_3.out, hB_⟩
end Go.Proofs.Ytoijcallajegfaa.A
end
section
namespace Go.Proofs.Ytoijcallajegfaa.A
open Go.RowKit Go.Proofs.YtoijcallajegfaaW.PrintWords Go.Proofs.YtoijcallajegfaaW.PrintLast Go.Proofs.YtoijcallajegfaaW.PrintMore
attribute [local go_sem] max2_int min2_int max_two min_two max_three min_three max_four min_four
set_option linter.unusedVariables false
set_option linter.unusedSimpArgs false
def spec_SameSurface.f (k : Nat) (l0_0 : List Int) (l0_1 : List Int) (l1_0 : List Int) (l1_1 : List Int) : Option (Bool) := (spec_SameList.f k l0_0 l1_0).bind fun t1046 => (if t1046 = true then ((spec_SameList.f k l0_1 l1_1).bind fun t1047 => (some t1047)) else (some false))
theorem spec_SameSurface.mono : ∀ a0 a1 a2 a3 k, LeO (spec_SameSurface.f k a0 a1 a2 a3) (spec_SameSurface.f (k + 1) a0 a1 a2 a3) := by
  intro a0 a1 a2 a3 k
  unfold spec_SameSurface.f
  repeat' first|exact spec_SameList.mono _ _ _|exact lo_|refine LeO.ite ?_ ?_|refine LeO.bind ?_ (fun _ => ?_)
set_option maxHeartbeats 8000000 in
set_option maxRecDepth 100000 in
theorem spec_SameSurface.calls (k : Nat) (A0_0 : Option Addr) (c0_0 : Nat) (l0_0 : List Int) (A0_1 : Option Addr) (c0_1 : Nat) (l0_1 : List Int) (A1_0 : Option Addr) (c1_0 : Nat) (l1_0 : List Int) (A1_1 : Option Addr) (c1_1 : Nat) (l1_1 : List Int) (r : Bool) (w : World) (hr0_0 : Kd.C (Kd.int .i64) w A0_0 l0_0.length l0_0) (hc0_0 : l0_0.length ≤ c0_0) (hr0_1 : Kd.C (Kd.int .i64) w A0_1 l0_1.length l0_1) (hc0_1 : l0_1.length ≤ c0_1) (hr1_0 : Kd.C (Kd.int .i64) w A1_0 l1_0.length l1_0) (hc1_0 : l1_0.length ≤ c1_0) (hr1_1 : Kd.C (Kd.int .i64) w A1_1 l1_1.length l1_1) (hc1_1 : l1_1.length ≤ c1_1) (h : spec_SameSurface.f k l0_0 l0_1 l1_0 l1_1 = some r) :
    Calls Try.prog 125 #[.agg #[.slice A0_0 l0_0.length c0_0, .slice A0_1 l0_1.length c0_1], .agg #[.slice A1_0 l1_0.length c1_0, .slice A1_1 l1_1.length c1_1]] w fun e w' => e = .returned (.bool r) ∧ Below w.heap.size w w' := by
  have hu33 := Try.underlying33
  have HR0_0 := Aside0.mk hr0_0
  have HC0_0 := Aside0.mk hc0_0
  clear hr0_0 hc0_0
  have HR0_1 := Aside0.mk hr0_1
  have HC0_1 := Aside0.mk hc0_1
  clear hr0_1 hc0_1
  have HR1_0 := Aside0.mk hr1_0
  have HC1_0 := Aside0.mk hc1_0
  clear hr1_0 hc1_0
  have HR1_1 := Aside0.mk hr1_1
  have HC1_1 := Aside0.mk hc1_1
  clear hr1_1 hc1_1
  have HB := Aside0.mk (Below.refl w.heap.size w)
  have H := h
  unfold spec_SameSurface.f at H
  clear h
  obtain ⟨t1046, A3, H⟩ := bi_ H
  by_cases c4 : t1046 = true
  · subst c4
    rw [if_pos rfl] at H
    obtain ⟨t1047, A5, H⟩ := bi_ H
    obtain rfl := Option.some.inj H
    go_enter Try.func125, Try.ntmps125
    go_wp2_with (first | ((with_reducible refine gate_dst (N := 2) rfl ?_); refine bx_ 2 #[.slice A0_0 l0_0.length c0_0, .slice A0_1 l0_1.length c0_1] 33 ?_; intro gb1044 hg w6 hbox hb; have BK1044 := Aside0.mk hbox; have GW1044 := gw_ w hg; have GE1044 := GW1044; replace HB := b1_ hb; clear hb hbox hg) | ((with_reducible refine gate_dst (N := 3) rfl ?_); refine bx_ 3 #[.slice A1_0 l1_0.length c1_0, .slice A1_1 l1_1.length c1_1] 33 ?_; intro gb1045 hg w7 hbox hb; have BK1045 := Aside0.mk hbox; have GW1045 := gw_ w hg; have GE1045 := GW1045; replace HB := b1_ hb; have NB1044_1045 := gN_ BK1044 hg; have NB1045_1044 := gP_ BK1044 hg; replace BK1044 := bb_ BK1044 hb; clear hb hbox hg; have hnb8 := NB1044_1045.out; have hnc8 := NB1045_1044.out; obtain ⟨hcz9_0, hcz9_1, hfz9_0, hfz9_1⟩ := c2_ BK1044; obtain ⟨hcz10_0, hcz10_1, hfz10_0, hfz10_1⟩ := c2_ BK1045) | ((with_reducible refine gate_callee (f := 134) rfl ?_); refine gL_ (some 9) Try.func134 #[.slice A0_0 l0_0.length c0_0, .slice A1_0 l1_0.length c1_0] rfl qa_ ?_; (with_reducible refine (spec_SameList.calls k _ _ l0_0 _ _ l1_0 true _ (cb_ HR0_0) HC0_0.out (cb_ HR1_0) HC1_0.out A3.out).mono ?_); rintro e w' ⟨rfl, ⟨nd, rfl⟩⟩; refine ⟨_, rfl, ?_⟩) | (go_at_call 134; (with_reducible refine (spec_SameList.calls k _ _ l0_1 _ _ l1_1 t1047 _ (cw_ (Kd.C_below HR0_1.out hB_)) HC0_1.out (cw_ (Kd.C_below HR1_1.out hB_)) HC1_1.out A5.out).mono ?_); rintro e w' ⟨rfl, ⟨nd, rfl⟩⟩))
    go_ret
    exact ⟨qb_, hB_⟩
  · replace c4 := Bool.eq_false_iff.mpr c4
    subst c4
    have H1 : (some false) = some r := by rw [if_neg (show ¬ (false = true) by decide)] at H; exact H
    clear H
    have H := H1
    clear H1
    obtain rfl := Option.some.inj H
    go_enter Try.func125, Try.ntmps125
    go_wp2_with (first | ((with_reducible refine gate_dst (N := 2) rfl ?_); refine bx_ 2 #[.slice A0_0 l0_0.length c0_0, .slice A0_1 l0_1.length c0_1] 33 ?_; intro gb1044 hg w11 hbox hb; have BK1044 := Aside0.mk hbox; have GW1044 := gw_ w hg; have GE1044 := GW1044; replace HB := b1_ hb; clear hb hbox hg) | ((with_reducible refine gate_dst (N := 3) rfl ?_); refine bx_ 3 #[.slice A1_0 l1_0.length c1_0, .slice A1_1 l1_1.length c1_1] 33 ?_; intro gb1045 hg w12 hbox hb; have BK1045 := Aside0.mk hbox; have GW1045 := gw_ w hg; have GE1045 := GW1045; replace HB := b1_ hb; have NB1044_1045 := gN_ BK1044 hg; have NB1045_1044 := gP_ BK1044 hg; replace BK1044 := bb_ BK1044 hb; clear hb hbox hg; have hnb13 := NB1044_1045.out; have hnc13 := NB1045_1044.out; obtain ⟨hcz14_0, hcz14_1, hfz14_0, hfz14_1⟩ := c2_ BK1044; obtain ⟨hcz15_0, hcz15_1, hfz15_0, hfz15_1⟩ := c2_ BK1045) | ((with_reducible refine gate_callee (f := 134) rfl ?_); refine gL_ (some 9) Try.func134 #[.slice A0_0 l0_0.length c0_0, .slice A1_0 l1_0.length c1_0] rfl qa_ ?_; (with_reducible refine (spec_SameList.calls k _ _ l0_0 _ _ l1_0 false _ (cb_ HR0_0) HC0_0.out (cb_ HR1_0) HC1_0.out A3.out).mono ?_); rintro e w' ⟨rfl, ⟨nd, rfl⟩⟩; refine ⟨_, rfl, ?_⟩))
    go_ret
    exact ⟨qb_, hB_⟩
end Go.Proofs.Ytoijcallajegfaa.A
end
