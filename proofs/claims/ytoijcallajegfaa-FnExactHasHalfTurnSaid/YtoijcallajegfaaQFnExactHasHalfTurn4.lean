/- Lemmas for the row FnExactHasHalfTurn: the program's functions told as plain functions, and plain mathematics. No conditions. -/
import Derived.Test.YtoijcallajegfaaQFnExactHasHalfTurn3
section
namespace Go.Proofs.Ytoijcallajegfaa.A
open Go.RowKit Go.Proofs.YtoijcallajegfaaW.PrintWords Go.Proofs.YtoijcallajegfaaW.PrintLast Go.Proofs.YtoijcallajegfaaW.PrintMore
attribute [local go_sem] max2_int min2_int max_two min_two max_three min_three max_four min_four
set_option linter.unusedVariables false
set_option linter.unusedSimpArgs false
def spec_l03Canon.l0 : Nat → Int → List Int → List Int → List Int → List Int → Option (List Int × List Int)
  | 0, _, _, _, _, _ => none
  | k + 1, x4, x928000, x928001, x939000, x939001 => if x4 < (x928000.length : Int) then ((spec_l03Names.f k x928000 x928001 x4).bind fun t939 => ((spec_l03Rename.f k x928000 x928001 t939).bind fun bt942 => ((spec_l03Before.f k bt942.1 bt942.2 x939000 x939001).bind fun t949 => (if t949 = true then (spec_l03Canon.l0 k (wrap64 (x4 + 1)) x928000 x928001 bt942.1 bt942.2) else (spec_l03Canon.l0 k (wrap64 (x4 + 1)) x928000 x928001 x939000 x939001))))) else (some (x939000, x939001))
def spec_l03Canon.f (k : Nat) (l0_0 : List Int) (l0_1 : List Int) : Option (List Int × List Int) := (spec_l03Names.f k l0_0 l0_1 0).bind fun t929 => ((spec_l03Rename.f k l0_0 l0_1 t929).bind fun bt932 => (spec_l03Canon.l0 k 1 l0_0 l0_1 bt932.1 bt932.2))
theorem spec_l03Canon.mono_l : ∀ k, (∀ y0 y1 y2 y3 y4, LeO (spec_l03Canon.l0 k y0 y1 y2 y3 y4) (spec_l03Canon.l0 (k + 1) y0 y1 y2 y3 y4))
  | 0 => fun _ _ _ _ _ r h => by simp [spec_l03Canon.l0] at h
  | k + 1 => by
    have ih0 := spec_l03Canon.mono_l k
    · intro y0 y1 y2 y3 y4
      unfold spec_l03Canon.l0
      repeat' first|exact ih0 _ _ _ _ _|exact spec_l03Before.mono _ _ _ _ _|exact spec_l03Names.mono _ _ _ _|exact spec_l03Rename.mono _ _ _ _|exact lo_|refine LeO.ite ?_ ?_|refine LeO.bind ?_ (fun _ => ?_)
theorem spec_l03Canon.mono : ∀ a0 a1 k, LeO (spec_l03Canon.f k a0 a1) (spec_l03Canon.f (k + 1) a0 a1) := by
  intro a0 a1 k
  have ih0 := spec_l03Canon.mono_l k
  unfold spec_l03Canon.f
  repeat' first|exact ih0 _ _ _ _ _|exact spec_l03Before.mono _ _ _ _ _|exact spec_l03Names.mono _ _ _ _|exact spec_l03Rename.mono _ _ _ _|exact lo_|refine LeO.ite ?_ ?_|refine LeO.bind ?_ (fun _ => ?_)
set_option maxHeartbeats 8000000 in
set_option maxRecDepth 100000 in
theorem spec_l03Canon.calls (k : Nat) (A0_0 : Option Addr) (c0_0 : Nat) (l0_0 : List Int) (A0_1 : Option Addr) (c0_1 : Nat) (l0_1 : List Int) (r1 : List Int) (r2 : List Int) (w : World) (hr0_0 : Kd.C (Kd.int .i64) w A0_0 l0_0.length l0_0) (hc0_0 : l0_0.length ≤ c0_0) (hr0_1 : Kd.C (Kd.int .i64) w A0_1 l0_1.length l0_1) (hc0_1 : l0_1.length ≤ c0_1) (h : spec_l03Canon.f k l0_0 l0_1 = some (r1, r2)) :
    Calls Try.prog 87 #[.agg #[.slice A0_0 l0_0.length c0_0, .slice A0_1 l0_1.length c0_1]] w fun e w' => ∃ v0_ v1_ : Value, e = .returned (.agg #[v0_, v1_]) ∧ Kd.R (Kd.int .i64) 3 w' w.heap.size (fun k_ => some k_ ≠ (v1_ : Value).ownBlock) v0_ r1 ∧ Kd.R (Kd.int .i64) 3 w' w.heap.size (fun k_ => some k_ ≠ (v0_ : Value).ownBlock) v1_ r2 ∧ Below w.heap.size w w' := by
  have hu33 := Try.underlying33
  have HR0_0 := Aside0.mk hr0_0
  have HC0_0 := Aside0.mk hc0_0
  clear hr0_0 hc0_0
  have HR0_1 := Aside0.mk hr0_1
  have HC0_1 := Aside0.mk hc0_1
  clear hr0_1 hc0_1
  have HB := Aside0.mk (Below.refl w.heap.size w)
  have H := h
  unfold spec_l03Canon.f at H
  clear h
  obtain ⟨t929, A2, H⟩ := bi_ H
  obtain ⟨⟨t932, t935⟩, A3, H⟩ := bi_ H
  try dsimp only at H
  have H' := Aside0.mk H
  clear H
  go_enter Try.func87, Try.ntmps87
  try go_wp2_with (first | ((with_reducible refine gate_dst (N := 1) rfl ?_); refine bx_ 1 #[.slice A0_0 l0_0.length c0_0, .slice A0_1 l0_1.length c0_1] 33 ?_; intro gb927 hg w4 hbox hb; have BK927 := Aside0.mk hbox; have GW927 := gw_ w hg; have GE927 := GW927; replace HB := b1_ hb; clear hb hbox hg) | ((with_reducible refine gate_dst (N := 2) rfl ?_); refine bx_ 2 #[.slice none 0 0, .slice none 0 0] 33 ?_; intro gb928 hg w5 hbox hb; have BK928 := Aside0.mk hbox; have GW928 := gw_ w hg; have GE928 := GW928; replace HB := b1_ hb; have NB927_928 := gN_ BK927 hg; have NB928_927 := gP_ BK927 hg; replace BK927 := bb_ BK927 hb; clear hb hbox hg))
  replace BK927 := Aside0.mk (blk_drew BK927.out)
  replace BK928 := Aside0.mk (blk_drew BK928.out)
  replace HB := Aside0.mk (below_drew1 HB.out)
  refine start_ (n := 6) (S := fun w' => w'.cell? ⟨gb927, 0, none⟩ = some (.slice A0_0 l0_0.length c0_0) ∧ w'.cell? ⟨gb927, 1, none⟩ = some (.slice A0_1 l0_1.length c0_1)) (ds := []) (bl_ 6 0) (by kernel_rfl) rfl (by kernel_rfl) ⟨cz0_ BK927, cz1_ BK927⟩ (fun hHeld => ?_)
  generalize w5.drew = w6 at BK927 BK928 HB hHeld ⊢
  refine take_ (i := 0) (N := some 6) (v := ?_) (a' := ?_) (bl_ 6 1) rfl rfl (by kernel_rfl) (fun _ _ _ h => h) (Or.inl ⟨by rfl, ?_⟩) hHeld ?_ ?_
  rotate_left
  · rintro w' ⟨s0, s1⟩
    go_simp
    with_reducible rfl
  rotate_left
  · simp only [Act.put, List.setIfInBounds_toArray, List.set_cons_zero, List.set_cons_succ, i64_w, i32_w]
    rfl
  refine take_ (i := 1) (N := some 7) (v := ?_) (a' := ?_) (bl_ 6 3) rfl rfl (by kernel_rfl) (fun _ _ _ h => h) (Or.inl ⟨by rfl, ?_⟩) hHeld ?_ ?_
  rotate_left
  · rintro w' ⟨s0, s1⟩
    go_simp
    with_reducible rfl
  rotate_left
  · simp only [Act.put, List.setIfInBounds_toArray, List.set_cons_zero, List.set_cons_succ, i64_w, i32_w]
    rfl
  refine join_ (σ := Value × Value × Value × Nat) 1 (bl_ 6 31) (fun s_ => [(8, s_.1), (9, .agg #[s_.2.1, s_.2.2.1]), (3, .pointer (some ⟨s_.2.2.2, 0, none⟩))]) (fun s_ w' => (w'.cell? ⟨gb927, 0, none⟩ = some (.slice A0_0 l0_0.length c0_0) ∧ w'.cell? ⟨gb927, 1, none⟩ = some (.slice A0_1 l0_1.length c0_1)) ∧ (Kd.R (Kd.int .i64) 3 w' w.heap.size (fun k_ => some k_ ≠ (s_.2.1 : Value).ownBlock ∧ some k_ ≠ (s_.2.2.1 : Value).ownBlock) s_.1 t929) ∧ (Kd.R (Kd.int .i64) 3 w' w.heap.size (fun k_ => some k_ ≠ (s_.1 : Value).ownBlock ∧ some k_ ≠ (s_.2.2.1 : Value).ownBlock) s_.2.1 t932) ∧ (Kd.R (Kd.int .i64) 3 w' w.heap.size (fun k_ => some k_ ≠ (s_.1 : Value).ownBlock ∧ some k_ ≠ (s_.2.1 : Value).ownBlock) s_.2.2.1 t935) ∧ (w'.heap[gb927]? = some (.cells #[.slice A0_0 l0_0.length c0_0, .slice A0_1 l0_1.length c0_1] 33 (0, 0))) ∧ (w'.heap[gb928]? = some (.cells #[.slice none 0 0, .slice none 0 0] 33 (0, 0))) ∧ (w'.heap[s_.2.2.2]? = some (.cells #[.slice none 0 0, .slice none 0 0] 33 (0, 0))) ∧ (w.heap.size ≤ s_.2.2.2) ∧ (w.heap.size ≤ s_.2.2.2) ∧ (gb927 ≠ s_.2.2.2) ∧ (s_.2.2.2 ≠ gb927) ∧ (gb928 ≠ s_.2.2.2) ∧ (s_.2.2.2 ≠ gb928) ∧ (Below w.heap.size w w')) ?_ ?_
  rotate_left
  · intro hCont
    refine two_ (i := 2) (j := 4) (Ni := some 8) (Nj := some 3) (bl_ 6 7) (bl_ 6 19) rfl rfl rfl rfl (by kernel_rfl) (by decide) (by decide) (fun K hK => ?_) (fun K hK => ?_)
    · skip
      refine gO_ Try.func130 #[.agg #[.slice A0_0 l0_0.length c0_0, .slice A0_1 l0_1.length c0_1], .int .i64 0] (by rfl) rfl rfl qa_ ?_
      with_reducible refine (spec_l03Names.calls k _ _ l0_0 _ _ l0_1 0 t929 _ (cb_ HR0_0) HC0_0.out (cb_ HR0_1) HC0_1.out A2.out).mono ?_
      rintro e w7 ⟨v930, rfl, ho0, hb⟩
      refine ⟨_, rfl, ?_⟩
      have HO931 := rl_ w ho0
      replace BK927 := bb_ BK927 hb
      replace BK928 := bb_ BK928 hb
      replace HB := b1_ hb
      clear hb ho0
      obtain ⟨Ao8, co8, eo8⟩ := Kd.R_slice HO931.out
      (first | subst eo8 | (injection eo8 with f1_ f2_ f3_; have f4_ := f1_.symm; have f5_ := f3_.symm; clear f1_ f2_ f3_; subst f4_; subst f5_))
      refine hK.out _ _ ⟨cz0_ BK927, cz1_ BK927⟩ (fun hHeld => ?_)
      clear hK K
      refine no_ (some 8) ?_
      refine two_ (i := 3) (j := 4) (Ni := some 9) (Nj := some 3) (bl_ 6 15) (bl_ 6 23) rfl rfl rfl rfl (by kernel_rfl) (by decide) (by decide) (fun K hK => ?_) (fun K hK => ?_)
      · skip
        refine gO_ Try.func129 #[.agg #[.slice A0_0 l0_0.length c0_0, .slice A0_1 l0_1.length c0_1], .slice Ao8 t929.length co8] (by rfl) rfl rfl qa_ ?_
        with_reducible refine (spec_l03Rename.calls k _ _ l0_0 _ _ l0_1 _ _ t929 t932 t935 _ (cb_ HR0_0) HC0_0.out (cb_ HR0_1) HC0_1.out (cr_ HO931) ((Kd.R_reads' HO931.out).2.1) A3.out).mono ?_
        rintro e w9 ⟨v933, v936, rfl, ho0, ho1, hb⟩
        refine ⟨_, rfl, ?_⟩
        have HO934 := Aside0.mk (Kd.R_lower (Kd.R_new' ho0 (Kd.R_lt (rr_ HO931))) (below_size hB_))
        have HO937 := Aside0.mk (Kd.R_lower (Kd.R_new' ho1 (Kd.R_lt (rr_ HO931))) (below_size hB_))
        replace HO931 := Aside0.mk (Kd.R_mono (Kd.R_told (Kd.R_told (Kd.R_old (rr_ HO931) hb) (Kd.R_base ho0)) (Kd.R_base ho1)) (fun _ h_ => h_.1))
        replace BK927 := bb_ BK927 hb
        replace BK928 := bb_ BK928 hb
        replace HB := b1_ hb
        clear hb ho0 ho1
        refine hK.out _ _ ⟨cz0_ BK927, cz1_ BK927⟩ (fun hHeld => ?_)
        clear hK K
        refine no_ (some 9) ?_
        refine one_ (i := 4) (N := some 3) (bl_ 6 31) rfl rfl (by kernel_rfl) (by decide) (fun K hK => ?_)
        refine box_step ?hg (N := 3) ?hd (cs := #[.slice none 0 0, .slice none 0 0]) (t := 33) ?hr ?_; (case hd => rfl); (case hg => rfl); (case hr => first | (go_simp; done) | (go_simp; rfl))
        intro gb938 hg w10 hbox hb
        replace HO931 := rb_ HO931 hb
        replace HO934 := rb_ HO934 hb
        replace HO937 := rb_ HO937 hb
        have BK938 := Aside0.mk hbox
        have GW938 := gw_ w hg
        have GE938 := GW938
        replace HB := b1_ hb
        have NB927_938 := gN_ BK927 hg
        have NB938_927 := gP_ BK927 hg
        replace BK927 := bb_ BK927 hb
        have NB928_938 := gN_ BK928 hg
        have NB938_928 := gP_ BK928 hg
        replace BK928 := bb_ BK928 hb
        clear hb hbox hg
        refine hK.out _ _ ⟨cz0_ BK927, cz1_ BK927⟩ (fun hHeld => ?_)
        clear hK K
        refine no_ (some 3) ?_
        exact norm_ (by simp only [putAll, Act.put, List.setIfInBounds_toArray, List.set_cons_zero, List.set_cons_succ]) (hCont (.slice Ao8 t929.length co8, v933, v936, gb938) _ ⟨hHeld, (rw_ (Kd.R_mono HO931.out (fun _ hk => ⟨hk.1.2, hk.2⟩))), (rw_ (Kd.R_mono HO934.out (fun _ hk => ⟨hk.2, hk.1⟩))), (rw_ (Kd.R_mono HO937.out (fun _ hk => ⟨hk.2, hk.1⟩))), (kk_ BK927), (kk_ BK928), (kk_ BK938), GW938.out, GE938.out, NB927_938.out, NB938_927.out, NB928_938.out, NB938_928.out, hB_⟩)
      · skip
        refine box_step ?hg (N := 3) ?hd (cs := #[.slice none 0 0, .slice none 0 0]) (t := 33) ?hr ?_; (case hd => rfl); (case hg => rfl); (case hr => first | (go_simp; done) | (go_simp; rfl))
        intro gb938 hg w8 hbox hb
        replace HO931 := rb_ HO931 hb
        have BK938 := Aside0.mk hbox
        have GW938 := gw_ w hg
        have GE938 := GW938
        replace HB := b1_ hb
        have NB927_938 := gN_ BK927 hg
        have NB938_927 := gP_ BK927 hg
        replace BK927 := bb_ BK927 hb
        have NB928_938 := gN_ BK928 hg
        have NB938_928 := gP_ BK928 hg
        replace BK928 := bb_ BK928 hb
        clear hb hbox hg
        obtain ⟨Ao9, co9, eo9⟩ := Kd.R_slice HO931.out
        (first | subst eo9 | (injection eo9 with f1_ f2_ f3_; have f4_ := f1_.symm; have f5_ := f3_.symm; clear f1_ f2_ f3_; subst f4_; subst f5_))
        refine hK.out _ _ ⟨cz0_ BK927, cz1_ BK927⟩ (fun hHeld => ?_)
        clear hK K
        refine no_ (some 3) ?_
        refine one_ (i := 3) (N := some 9) (bl_ 6 31) rfl rfl (by kernel_rfl) (by decide) (fun K hK => ?_)
        refine gO_ Try.func129 #[.agg #[.slice A0_0 l0_0.length c0_0, .slice A0_1 l0_1.length c0_1], .slice Ao9 t929.length co9] (by rfl) rfl rfl qa_ ?_
        with_reducible refine (spec_l03Rename.calls k _ _ l0_0 _ _ l0_1 _ _ t929 t932 t935 _ (cb_ HR0_0) HC0_0.out (cb_ HR0_1) HC0_1.out (cr_ HO931) ((Kd.R_reads' HO931.out).2.1) A3.out).mono ?_
        rintro e w10 ⟨v933, v936, rfl, ho0, ho1, hb⟩
        refine ⟨_, rfl, ?_⟩
        have HO934 := Aside0.mk (Kd.R_lower (Kd.R_new' ho0 (Kd.R_lt (rr_ HO931))) (below_size hB_))
        have HO937 := Aside0.mk (Kd.R_lower (Kd.R_new' ho1 (Kd.R_lt (rr_ HO931))) (below_size hB_))
        replace HO931 := Aside0.mk (Kd.R_mono (Kd.R_told (Kd.R_told (Kd.R_old (rr_ HO931) hb) (Kd.R_base ho0)) (Kd.R_base ho1)) (fun _ h_ => h_.1))
        replace BK927 := bb_ BK927 hb
        replace BK928 := bb_ BK928 hb
        replace BK938 := bb_ BK938 hb
        replace HB := b1_ hb
        clear hb ho0 ho1
        refine hK.out _ _ ⟨cz0_ BK927, cz1_ BK927⟩ (fun hHeld => ?_)
        clear hK K
        refine no_ (some 9) ?_
        exact norm_ (by simp only [putAll, Act.put, List.setIfInBounds_toArray, List.set_cons_zero, List.set_cons_succ]) (hCont (.slice Ao9 t929.length co9, v933, v936, gb938) _ ⟨hHeld, (rw_ (Kd.R_mono HO931.out (fun _ hk => ⟨hk.1.2, hk.2⟩))), (rw_ (Kd.R_mono HO934.out (fun _ hk => ⟨hk.2, hk.1⟩))), (rw_ (Kd.R_mono HO937.out (fun _ hk => ⟨hk.2, hk.1⟩))), (kk_ BK927), (kk_ BK928), (kk_ BK938), GW938.out, GE938.out, NB927_938.out, NB938_927.out, NB928_938.out, NB938_928.out, hB_⟩)
    · skip
      refine box_step ?hg (N := 3) ?hd (cs := #[.slice none 0 0, .slice none 0 0]) (t := 33) ?hr ?_; (case hd => rfl); (case hg => rfl); (case hr => first | (go_simp; done) | (go_simp; rfl))
      intro gb938 hg w7 hbox hb
      have BK938 := Aside0.mk hbox
      have GW938 := gw_ w hg
      have GE938 := GW938
      replace HB := b1_ hb
      have NB927_938 := gN_ BK927 hg
      have NB938_927 := gP_ BK927 hg
      replace BK927 := bb_ BK927 hb
      have NB928_938 := gN_ BK928 hg
      have NB938_928 := gP_ BK928 hg
      replace BK928 := bb_ BK928 hb
      clear hb hbox hg
      refine hK.out _ _ ⟨cz0_ BK927, cz1_ BK927⟩ (fun hHeld => ?_)
      clear hK K
      refine no_ (some 3) ?_
      refine one_ (i := 2) (N := some 8) (bl_ 6 23) rfl rfl (by kernel_rfl) (by decide) (fun K hK => ?_)
      refine gO_ Try.func130 #[.agg #[.slice A0_0 l0_0.length c0_0, .slice A0_1 l0_1.length c0_1], .int .i64 0] (by rfl) rfl rfl qa_ ?_
      with_reducible refine (spec_l03Names.calls k _ _ l0_0 _ _ l0_1 0 t929 _ (cb_ HR0_0) HC0_0.out (cb_ HR0_1) HC0_1.out A2.out).mono ?_
      rintro e w8 ⟨v930, rfl, ho0, hb⟩
      refine ⟨_, rfl, ?_⟩
      have HO931 := rl_ w ho0
      replace BK927 := bb_ BK927 hb
      replace BK928 := bb_ BK928 hb
      replace BK938 := bb_ BK938 hb
      replace HB := b1_ hb
      clear hb ho0
      obtain ⟨Ao9, co9, eo9⟩ := Kd.R_slice HO931.out
      (first | subst eo9 | (injection eo9 with f1_ f2_ f3_; have f4_ := f1_.symm; have f5_ := f3_.symm; clear f1_ f2_ f3_; subst f4_; subst f5_))
      refine hK.out _ _ ⟨cz0_ BK927, cz1_ BK927⟩ (fun hHeld => ?_)
      clear hK K
      refine no_ (some 8) ?_
      refine one_ (i := 3) (N := some 9) (bl_ 6 31) rfl rfl (by kernel_rfl) (by decide) (fun K hK => ?_)
      refine gO_ Try.func129 #[.agg #[.slice A0_0 l0_0.length c0_0, .slice A0_1 l0_1.length c0_1], .slice Ao9 t929.length co9] (by rfl) rfl rfl qa_ ?_
      with_reducible refine (spec_l03Rename.calls k _ _ l0_0 _ _ l0_1 _ _ t929 t932 t935 _ (cb_ HR0_0) HC0_0.out (cb_ HR0_1) HC0_1.out (cr_ HO931) ((Kd.R_reads' HO931.out).2.1) A3.out).mono ?_
      rintro e w10 ⟨v933, v936, rfl, ho0, ho1, hb⟩
      refine ⟨_, rfl, ?_⟩
      have HO934 := Aside0.mk (Kd.R_lower (Kd.R_new' ho0 (Kd.R_lt (rr_ HO931))) (below_size hB_))
      have HO937 := Aside0.mk (Kd.R_lower (Kd.R_new' ho1 (Kd.R_lt (rr_ HO931))) (below_size hB_))
      replace HO931 := Aside0.mk (Kd.R_mono (Kd.R_told (Kd.R_told (Kd.R_old (rr_ HO931) hb) (Kd.R_base ho0)) (Kd.R_base ho1)) (fun _ h_ => h_.1))
      replace BK927 := bb_ BK927 hb
      replace BK928 := bb_ BK928 hb
      replace BK938 := bb_ BK938 hb
      replace HB := b1_ hb
      clear hb ho0 ho1
      refine hK.out _ _ ⟨cz0_ BK927, cz1_ BK927⟩ (fun hHeld => ?_)
      clear hK K
      refine no_ (some 9) ?_
      exact norm_ (by simp only [putAll, Act.put, List.setIfInBounds_toArray, List.set_cons_zero, List.set_cons_succ]) (hCont (.slice Ao9 t929.length co9, v933, v936, gb938) _ ⟨hHeld, (rw_ (Kd.R_mono HO931.out (fun _ hk => ⟨hk.1.2, hk.2⟩))), (rw_ (Kd.R_mono HO934.out (fun _ hk => ⟨hk.2, hk.1⟩))), (rw_ (Kd.R_mono HO937.out (fun _ hk => ⟨hk.2, hk.1⟩))), (kk_ BK927), (kk_ BK928), (kk_ BK938), GW938.out, GE938.out, NB927_938.out, NB938_927.out, NB928_938.out, NB938_928.out, hB_⟩)
  rintro ⟨v930, v933, v936, gb938⟩ w11 ⟨hS_, h0_, h1_, h2_, h3_, h4_, h5_, h6_, h7_, h8_, h9_, h10_, h11_, h12_⟩
  have n0_ : Aside0 (Kd.R (Kd.int .i64) 3 w11 w.heap.size (fun k_ => some k_ ≠ (v933 : Value).ownBlock ∧ some k_ ≠ (v936 : Value).ownBlock) v930 t929) := ⟨h0_⟩
  have n1_ : Aside0 (Kd.R (Kd.int .i64) 3 w11 w.heap.size (fun k_ => some k_ ≠ (v930 : Value).ownBlock ∧ some k_ ≠ (v936 : Value).ownBlock) v933 t932) := ⟨h1_⟩
  have n2_ : Aside0 (Kd.R (Kd.int .i64) 3 w11 w.heap.size (fun k_ => some k_ ≠ (v930 : Value).ownBlock ∧ some k_ ≠ (v933 : Value).ownBlock) v936 t935) := ⟨h2_⟩
  have n3_ : Aside0 (w11.heap[gb927]? = some (.cells #[.slice A0_0 l0_0.length c0_0, .slice A0_1 l0_1.length c0_1] 33 (0, 0))) := ⟨h3_⟩
  have n4_ : Aside0 (w11.heap[gb928]? = some (.cells #[.slice none 0 0, .slice none 0 0] 33 (0, 0))) := ⟨h4_⟩
  have n5_ : Aside0 (w11.heap[gb938]? = some (.cells #[.slice none 0 0, .slice none 0 0] 33 (0, 0))) := ⟨h5_⟩
  have n6_ : Aside0 (w.heap.size ≤ gb938) := ⟨h6_⟩
  have n7_ : Aside0 (w.heap.size ≤ gb938) := ⟨h7_⟩
  have n8_ : Aside0 (gb927 ≠ gb938) := ⟨h8_⟩
  have n9_ : Aside0 (gb938 ≠ gb927) := ⟨h9_⟩
  have n10_ : Aside0 (gb928 ≠ gb938) := ⟨h10_⟩
  have n11_ : Aside0 (gb938 ≠ gb928) := ⟨h11_⟩
  have n12_ : Aside0 (Below w.heap.size w w11) := ⟨h12_⟩
  clear BK927
  clear BK928
  clear HB
  clear h0_ h1_ h2_ h3_ h4_ h5_ h6_ h7_ h8_ h9_ h10_ h11_ h12_
  have HO931 := n0_
  have HO934 := n1_
  have HO937 := n2_
  have BK927 := n3_
  have BK928 := n4_
  have BK938 := n5_
  have GW938 := n6_
  have GE938 := n7_
  have NB927_938 := n8_
  have NB938_927 := n9_
  have NB928_938 := n10_
  have NB938_928 := n11_
  have HB := n12_
  clear n0_ n1_ n2_ n3_ n4_ n5_ n6_ n7_ n8_ n9_ n10_ n11_ n12_
  have hHeld : w11.cell? ⟨gb927, 0, none⟩ = some (.slice A0_0 l0_0.length c0_0) ∧ w11.cell? ⟨gb927, 1, none⟩ = some (.slice A0_1 l0_1.length c0_1) := hS_
  obtain ⟨Ao12, co12, eo12⟩ := Kd.R_slice HO934.out
  (first | subst eo12 | (injection eo12 with f1_ f2_ f3_; have f4_ := f1_.symm; have f5_ := f3_.symm; clear f1_ f2_ f3_; subst f4_; subst f5_))
  obtain ⟨Ao14, co14, eo14⟩ := Kd.R_slice HO937.out
  (first | subst eo14 | (injection eo14 with f1_ f2_ f3_; have f4_ := f1_.symm; have f5_ := f3_.symm; clear f1_ f2_ f3_; subst f4_; subst f5_))
  refine norm_ (a' := ?_) ?_ ?_
  rotate_left
  · simp only [putAll, Act.put, List.setIfInBounds_toArray, List.set_cons_zero, List.set_cons_succ]
    rfl
  refine one_ (i := 5) (N := none) (bl_ 6 63) rfl rfl (by kernel_rfl) (by decide) (fun K hK => ?_)
  have hs13 : w11.cell? ⟨gb938, 0, none⟩ = some (.slice none 0 0) := cz0_ BK938
  have hfs13 := blk_frozen BK938.out 0
  have hns13_0 := NB927_938.out
  have hns13_1 := NB928_938.out
  have hms13_0 := NB938_927.out
  have hms13_1 := NB938_928.out
  have hs15 : w11.cell? ⟨gb938, 1, none⟩ = some (.slice none 0 0) := cz1_ BK938
  have hfs15 := blk_frozen BK938.out 1
  have hns15_0 := NB927_938.out
  have hns15_1 := NB928_938.out
  have hms15_0 := NB938_927.out
  have hms15_1 := NB938_928.out
  refine skip_ (w1 := ?_) (by rfl) rfl ?_ ?_
  rotate_left
  · go_simp
    rfl
  refine hK.out _ _ ⟨((cell_far (p := ⟨gb938, _, none⟩) NB927_938.out _).trans (((cell_far (p := ⟨gb938, _, none⟩) NB927_938.out _).trans (hHeld.1)))), ((cell_far (p := ⟨gb938, _, none⟩) NB927_938.out _).trans (((cell_far (p := ⟨gb938, _, none⟩) NB927_938.out _).trans (hHeld.2))))⟩ (fun hHeld => ?_)
  clear hK K
  refine done_ (by kernel_rfl) ?_
  try go_wp2
  go_loopg [4] k (fun kq v4 w' => ∃ (x4_1 : Int) (x939000_1 : List Int) (x939001_1 : List Int) (u939000 : Value) (u939001 : Value), v4 = .int .i64 x4_1 ∧ Aside0 (spec_l03Canon.l0 kq x4_1 l0_0 l0_1 x939000_1 x939001_1 = some (r1, r2)) ∧ Aside0 (kq ≤ k) ∧ Aside0 (Kd.R (Kd.int .i64) 3 w' w.heap.size (fun k_ => some k_ ≠ (u939001 : Value).ownBlock) u939000 x939000_1) ∧ Aside0 (Kd.R (Kd.int .i64) 3 w' w.heap.size (fun k_ => some k_ ≠ (u939000 : Value).ownBlock) u939001 x939001_1) ∧ Aside0 (w'.heap[gb927]? = some (.cells #[(.slice A0_0 l0_0.length c0_0), (.slice A0_1 l0_1.length c0_1)] 33 (0, 0))) ∧ Aside0 (w'.heap[gb928]? = some (.cells #[(.slice none 0 0), (.slice none 0 0)] 33 (0, 0))) ∧ Aside0 (w'.heap[gb938]? = some (.cells #[u939000, u939001] 33 (0, 0))) ∧ Aside0 (Below w.heap.size w w'))
  case atStart => exact ⟨(1), (t932), (t935), (.slice Ao12 t932.length co12), (.slice Ao14 t935.length co14), qc_, H', ⟨Nat.le_refl _⟩, ⟨(rw_ (Kd.R_mono (fa_ HO934 BK938) (fun _ hk => hk.2)))⟩, ⟨(rw_ (Kd.R_mono (fa_ HO937 BK938) (fun _ hk => hk.2)))⟩, ⟨by (with_reducible repeat (first | refine blk_drewN ?_ _ | refine blk_drew ?_ | refine blk_alloc ?_ _)); refine blk_far ?_ NB927_938.out _; (with_reducible repeat (first | refine blk_drewN ?_ _ | refine blk_drew ?_ | refine blk_alloc ?_ _)); refine blk_far ?_ NB927_938.out _; (with_reducible repeat (first | refine blk_drewN ?_ _ | refine blk_drew ?_ | refine blk_alloc ?_ _)); exact BK927.out⟩, ⟨by (with_reducible repeat (first | refine blk_drewN ?_ _ | refine blk_drew ?_ | refine blk_alloc ?_ _)); refine blk_far ?_ NB928_938.out _; (with_reducible repeat (first | refine blk_drewN ?_ _ | refine blk_drew ?_ | refine blk_alloc ?_ _)); refine blk_far ?_ NB928_938.out _; (with_reducible repeat (first | refine blk_drewN ?_ _ | refine blk_drew ?_ | refine blk_alloc ?_ _)); exact BK928.out⟩, ⟨qp_⟩, ⟨hB_⟩⟩
  case round =>
    clear H'
    obtain ⟨x4_1, x939000_1, x939001_1, u939000, u939001, rfl, HA, HK1, HO_939000, HO_939001, BK927, BK928, BK938, HB⟩ := hrel
    cases gk with
    | zero => exact absurd HA.out (by simp [spec_l03Canon.l0])
    | succ k1 =>
      have H := HA.out
      clear HA
      simp only [spec_l03Canon.l0] at H
      by_cases c16 : x4_1 < (l0_0.length : Int)
      · rw [if_pos c16] at H
        have c16b0 := decide_eq_true c16
        clear c16
        obtain ⟨t939, A17, H⟩ := bi_ H
        obtain ⟨⟨t942, t945⟩, A18, H⟩ := bi_ H
        try dsimp only at H
        obtain ⟨t949, A19, H⟩ := bi_ H
        by_cases c20 : t949 = true
        · subst c20
          rw [if_pos rfl] at H
          have H' := Aside0.mk H
          clear H
          have hnb21 := NB927_928.out
          have hnc21 := NB928_927.out
          have hnb22 := NB927_938.out
          have hnc22 := NB938_927.out
          obtain ⟨hcz23_0, hcz23_1, hfz23_0, hfz23_1⟩ := c2_ BK927
          try go_wp2
          replace HO_939000 := Aside0.mk (Kd.R_drew HO_939000.out)
          replace HO_939001 := Aside0.mk (Kd.R_drew HO_939001.out)
          replace BK927 := Aside0.mk (blk_drew BK927.out)
          replace BK928 := Aside0.mk (blk_drew BK928.out)
          replace BK938 := Aside0.mk (blk_drew BK938.out)
          replace HB := Aside0.mk (below_drew1 HB.out)
          refine start_ (n := 7) (S := fun w' => w'.cell? ⟨gb927, 0, none⟩ = some (.slice A0_0 l0_0.length c0_0) ∧ w'.cell? ⟨gb927, 1, none⟩ = some (.slice A0_1 l0_1.length c0_1)) (ds := []) (bl_ 7 0) (by kernel_rfl) rfl (by kernel_rfl) ⟨cz0_ BK927, cz1_ BK927⟩ (fun hHeld => ?_)
          generalize wr.drew = w24 at HO_939000 HO_939001 BK927 BK928 BK938 HB hHeld ⊢
          refine pure_ (i := 2) (N := some 19) (v := ?_) (a' := ?_) (bl_ 7 4) rfl rfl (by kernel_rfl) (fun _ _ _ h => h) (Or.inl ⟨by rfl, ?_⟩) ?_ ?_
          rotate_left
          · intro w'
            go_simp
            with_reducible rfl
          rotate_left
          · simp only [Act.put, List.setIfInBounds_toArray, List.set_cons_zero, List.set_cons_succ, i64_w, i32_w]
            rfl
          refine take_ (i := 0) (N := some 17) (v := ?_) (a' := ?_) (bl_ 7 5) rfl rfl (by kernel_rfl) (fun _ _ _ h => h) (Or.inl ⟨by rfl, ?_⟩) hHeld ?_ ?_
          rotate_left
          · rintro w' ⟨s0, s1⟩
            go_simp
            with_reducible rfl
          rotate_left
          · simp only [Act.put, List.setIfInBounds_toArray, List.set_cons_zero, List.set_cons_succ, i64_w, i32_w]
            rfl
          refine take_ (i := 1) (N := some 18) (v := ?_) (a' := ?_) (bl_ 7 7) rfl rfl (by kernel_rfl) (fun _ _ _ h => h) (Or.inl ⟨by rfl, ?_⟩) hHeld ?_ ?_
          rotate_left
          · rintro w' ⟨s0, s1⟩
            go_simp
            with_reducible rfl
          rotate_left
          · simp only [Act.put, List.setIfInBounds_toArray, List.set_cons_zero, List.set_cons_succ, i64_w, i32_w]
            rfl
          refine join_ (σ := Value × Value × Value × Nat) 1 (bl_ 7 63) (fun s_ => [(20, s_.1), (21, .agg #[s_.2.1, s_.2.2.1]), (5, .pointer (some ⟨s_.2.2.2, 0, none⟩))]) (fun s_ w' => (w'.cell? ⟨gb927, 0, none⟩ = some (.slice A0_0 l0_0.length c0_0) ∧ w'.cell? ⟨gb927, 1, none⟩ = some (.slice A0_1 l0_1.length c0_1)) ∧ (Kd.R (Kd.int .i64) 3 w' w.heap.size (fun k_ => some k_ ≠ (s_.2.1 : Value).ownBlock ∧ some k_ ≠ (s_.2.2.1 : Value).ownBlock ∧ some k_ ≠ (u939000 : Value).ownBlock ∧ some k_ ≠ (u939001 : Value).ownBlock) s_.1 t939) ∧ (Kd.R (Kd.int .i64) 3 w' w.heap.size (fun k_ => some k_ ≠ (s_.1 : Value).ownBlock ∧ some k_ ≠ (s_.2.2.1 : Value).ownBlock ∧ some k_ ≠ (u939000 : Value).ownBlock ∧ some k_ ≠ (u939001 : Value).ownBlock) s_.2.1 t942) ∧ (Kd.R (Kd.int .i64) 3 w' w.heap.size (fun k_ => some k_ ≠ (s_.1 : Value).ownBlock ∧ some k_ ≠ (s_.2.1 : Value).ownBlock ∧ some k_ ≠ (u939000 : Value).ownBlock ∧ some k_ ≠ (u939001 : Value).ownBlock) s_.2.2.1 t945) ∧ (Kd.R (Kd.int .i64) 3 w' w.heap.size (fun k_ => some k_ ≠ (s_.1 : Value).ownBlock ∧ some k_ ≠ (s_.2.1 : Value).ownBlock ∧ some k_ ≠ (s_.2.2.1 : Value).ownBlock ∧ some k_ ≠ (u939001 : Value).ownBlock) u939000 x939000_1) ∧ (Kd.R (Kd.int .i64) 3 w' w.heap.size (fun k_ => some k_ ≠ (s_.1 : Value).ownBlock ∧ some k_ ≠ (s_.2.1 : Value).ownBlock ∧ some k_ ≠ (s_.2.2.1 : Value).ownBlock ∧ some k_ ≠ (u939000 : Value).ownBlock) u939001 x939001_1) ∧ (w'.heap[gb927]? = some (.cells #[.slice A0_0 l0_0.length c0_0, .slice A0_1 l0_1.length c0_1] 33 (0, 0))) ∧ (w'.heap[gb928]? = some (.cells #[.slice none 0 0, .slice none 0 0] 33 (0, 0))) ∧ (w'.heap[gb938]? = some (.cells #[u939000, u939001] 33 (0, 0))) ∧ (w'.heap[s_.2.2.2]? = some (.cells #[.slice none 0 0, .slice none 0 0] 33 (0, 0))) ∧ (w.heap.size ≤ s_.2.2.2) ∧ (w.heap.size ≤ s_.2.2.2) ∧ (gb927 ≠ s_.2.2.2) ∧ (s_.2.2.2 ≠ gb927) ∧ (gb928 ≠ s_.2.2.2) ∧ (s_.2.2.2 ≠ gb928) ∧ (gb938 ≠ s_.2.2.2) ∧ (s_.2.2.2 ≠ gb938) ∧ (Below w.heap.size w w')) ?_ ?_
          rotate_left
          · intro hCont
            refine two_ (i := 3) (j := 5) (Ni := some 20) (Nj := some 5) (bl_ 7 15) (bl_ 7 39) rfl rfl rfl rfl (by kernel_rfl) (by decide) (by decide) (fun K hK => ?_) (fun K hK => ?_)
            · skip
              refine gO_ Try.func130 #[.agg #[.slice A0_0 l0_0.length c0_0, .slice A0_1 l0_1.length c0_1], .int .i64 x4_1] (by rfl) rfl rfl qa_ ?_
              with_reducible refine (spec_l03Names.calls k1 _ _ l0_0 _ _ l0_1 x4_1 t939 _ (cb_ HR0_0) HC0_0.out (cb_ HR0_1) HC0_1.out A17.out).mono ?_
              rintro e w25 ⟨v940, rfl, ho0, hb⟩
              refine ⟨_, rfl, ?_⟩
              have HO941 := Aside0.mk (Kd.R_lower (Kd.R_new' (Kd.R_new' ho0 (Kd.R_lt (rr_ HO_939000))) (Kd.R_lt (rr_ HO_939001))) (below_size hB_))
              replace HO_939000 := Aside0.mk (Kd.R_elder' (rr_ HO_939000) (Kd.R_base ho0) hb)
              replace HO_939001 := Aside0.mk (Kd.R_elder' (rr_ HO_939001) (Kd.R_base ho0) hb)
              replace BK927 := bb_ BK927 hb
              replace BK928 := bb_ BK928 hb
              replace BK938 := bb_ BK938 hb
              replace HB := b1_ hb
              clear hb ho0
              obtain ⟨Ao26, co26, eo26⟩ := Kd.R_slice HO941.out
              (first | subst eo26 | (injection eo26 with f1_ f2_ f3_; have f4_ := f1_.symm; have f5_ := f3_.symm; clear f1_ f2_ f3_; subst f4_; subst f5_))
              refine hK.out _ _ ⟨cz0_ BK927, cz1_ BK927⟩ (fun hHeld => ?_)
              clear hK K
              refine no_ (some 20) ?_
              refine two_ (i := 4) (j := 5) (Ni := some 21) (Nj := some 5) (bl_ 7 31) (bl_ 7 47) rfl rfl rfl rfl (by kernel_rfl) (by decide) (by decide) (fun K hK => ?_) (fun K hK => ?_)
              · skip
                refine gO_ Try.func129 #[.agg #[.slice A0_0 l0_0.length c0_0, .slice A0_1 l0_1.length c0_1], .slice Ao26 t939.length co26] (by rfl) rfl rfl qa_ ?_
                with_reducible refine (spec_l03Rename.calls k1 _ _ l0_0 _ _ l0_1 _ _ t939 t942 t945 _ (cb_ HR0_0) HC0_0.out (cb_ HR0_1) HC0_1.out (cr_ HO941) ((Kd.R_reads' HO941.out).2.1) A18.out).mono ?_
                rintro e w27 ⟨v943, v946, rfl, ho0, ho1, hb⟩
                refine ⟨_, rfl, ?_⟩
                have HO944 := Aside0.mk (Kd.R_lower (Kd.R_new' (Kd.R_new' (Kd.R_new' ho0 (Kd.R_lt (rr_ HO_939000))) (Kd.R_lt (rr_ HO_939001))) (Kd.R_lt (rr_ HO941))) (below_size hB_))
                have HO947 := Aside0.mk (Kd.R_lower (Kd.R_new' (Kd.R_new' (Kd.R_new' ho1 (Kd.R_lt (rr_ HO_939000))) (Kd.R_lt (rr_ HO_939001))) (Kd.R_lt (rr_ HO941))) (below_size hB_))
                replace HO_939000 := Aside0.mk (Kd.R_mono (Kd.R_told (Kd.R_told (Kd.R_old (rr_ HO_939000) hb) (Kd.R_base ho0)) (Kd.R_base ho1)) (fun _ h_ => h_.1))
                replace HO_939001 := Aside0.mk (Kd.R_mono (Kd.R_told (Kd.R_told (Kd.R_old (rr_ HO_939001) hb) (Kd.R_base ho0)) (Kd.R_base ho1)) (fun _ h_ => h_.1))
                replace HO941 := Aside0.mk (Kd.R_mono (Kd.R_told (Kd.R_told (Kd.R_old (rr_ HO941) hb) (Kd.R_base ho0)) (Kd.R_base ho1)) (fun _ h_ => h_.1))
                replace BK927 := bb_ BK927 hb
                replace BK928 := bb_ BK928 hb
                replace BK938 := bb_ BK938 hb
                replace HB := b1_ hb
                clear hb ho0 ho1
                refine hK.out _ _ ⟨cz0_ BK927, cz1_ BK927⟩ (fun hHeld => ?_)
                clear hK K
                refine no_ (some 21) ?_
                refine one_ (i := 5) (N := some 5) (bl_ 7 63) rfl rfl (by kernel_rfl) (by decide) (fun K hK => ?_)
                refine box_step ?hg (N := 5) ?hd (cs := #[.slice none 0 0, .slice none 0 0]) (t := 33) ?hr ?_; (case hd => rfl); (case hg => rfl); (case hr => first | (go_simp; done) | (go_simp; rfl))
                intro gb948 hg w28 hbox hb
                replace HO_939000 := rb_ HO_939000 hb
                replace HO_939001 := rb_ HO_939001 hb
                replace HO941 := rb_ HO941 hb
                replace HO944 := rb_ HO944 hb
                replace HO947 := rb_ HO947 hb
                have BK948 := Aside0.mk hbox
                have GW948 := gw_ w hg
                have GE948 := GW948
                replace HB := b1_ hb
                have NB927_948 := gN_ BK927 hg
                have NB948_927 := gP_ BK927 hg
                replace BK927 := bb_ BK927 hb
                have NB928_948 := gN_ BK928 hg
                have NB948_928 := gP_ BK928 hg
                replace BK928 := bb_ BK928 hb
                have NB938_948 := gN_ BK938 hg
                have NB948_938 := gP_ BK938 hg
                replace BK938 := bb_ BK938 hb
                clear hb hbox hg
                refine hK.out _ _ ⟨cz0_ BK927, cz1_ BK927⟩ (fun hHeld => ?_)
                clear hK K
                refine no_ (some 5) ?_
                exact norm_ (by simp only [putAll, Act.put, List.setIfInBounds_toArray, List.set_cons_zero, List.set_cons_succ]) (hCont (.slice Ao26 t939.length co26, v943, v946, gb948) _ ⟨hHeld, (rw_ (Kd.R_mono HO941.out (fun _ hk => ⟨hk.1.2, ⟨hk.2, ⟨hk.1.1.1.2, hk.1.1.2⟩⟩⟩))), (rw_ (Kd.R_mono HO944.out (fun _ hk => ⟨hk.2, ⟨hk.1.1.1, ⟨hk.1.1.2, hk.1.2⟩⟩⟩))), (rw_ (Kd.R_mono HO947.out (fun _ hk => ⟨hk.2, ⟨hk.1.1.1, ⟨hk.1.1.2, hk.1.2⟩⟩⟩))), (rw_ (Kd.R_mono HO_939000.out (fun _ hk => ⟨hk.1.1.2, ⟨hk.1.2, ⟨hk.2, hk.1.1.1⟩⟩⟩))), (rw_ (Kd.R_mono HO_939001.out (fun _ hk => ⟨hk.1.1.2, ⟨hk.1.2, ⟨hk.2, hk.1.1.1⟩⟩⟩))), (kk_ BK927), (kk_ BK928), (kk_ BK938), (kk_ BK948), GW948.out, GE948.out, NB927_948.out, NB948_927.out, NB928_948.out, NB948_928.out, NB938_948.out, NB948_938.out, hB_⟩)
              · skip
                refine box_step ?hg (N := 5) ?hd (cs := #[.slice none 0 0, .slice none 0 0]) (t := 33) ?hr ?_; (case hd => rfl); (case hg => rfl); (case hr => first | (go_simp; done) | (go_simp; rfl))
                intro gb948 hg w26 hbox hb
                replace HO_939000 := rb_ HO_939000 hb
                replace HO_939001 := rb_ HO_939001 hb
                replace HO941 := rb_ HO941 hb
                have BK948 := Aside0.mk hbox
                have GW948 := gw_ w hg
                have GE948 := GW948
                replace HB := b1_ hb
                have NB927_948 := gN_ BK927 hg
                have NB948_927 := gP_ BK927 hg
                replace BK927 := bb_ BK927 hb
                have NB928_948 := gN_ BK928 hg
                have NB948_928 := gP_ BK928 hg
                replace BK928 := bb_ BK928 hb
                have NB938_948 := gN_ BK938 hg
                have NB948_938 := gP_ BK938 hg
                replace BK938 := bb_ BK938 hb
                clear hb hbox hg
                obtain ⟨Ao27, co27, eo27⟩ := Kd.R_slice HO941.out
                (first | subst eo27 | (injection eo27 with f1_ f2_ f3_; have f4_ := f1_.symm; have f5_ := f3_.symm; clear f1_ f2_ f3_; subst f4_; subst f5_))
                refine hK.out _ _ ⟨cz0_ BK927, cz1_ BK927⟩ (fun hHeld => ?_)
                clear hK K
                refine no_ (some 5) ?_
                refine one_ (i := 4) (N := some 21) (bl_ 7 63) rfl rfl (by kernel_rfl) (by decide) (fun K hK => ?_)
                refine gO_ Try.func129 #[.agg #[.slice A0_0 l0_0.length c0_0, .slice A0_1 l0_1.length c0_1], .slice Ao27 t939.length co27] (by rfl) rfl rfl qa_ ?_
                with_reducible refine (spec_l03Rename.calls k1 _ _ l0_0 _ _ l0_1 _ _ t939 t942 t945 _ (cb_ HR0_0) HC0_0.out (cb_ HR0_1) HC0_1.out (cr_ HO941) ((Kd.R_reads' HO941.out).2.1) A18.out).mono ?_
                rintro e w28 ⟨v943, v946, rfl, ho0, ho1, hb⟩
                refine ⟨_, rfl, ?_⟩
                have HO944 := Aside0.mk (Kd.R_lower (Kd.R_new' (Kd.R_new' (Kd.R_new' ho0 (Kd.R_lt (rr_ HO_939000))) (Kd.R_lt (rr_ HO_939001))) (Kd.R_lt (rr_ HO941))) (below_size hB_))
                have HO947 := Aside0.mk (Kd.R_lower (Kd.R_new' (Kd.R_new' (Kd.R_new' ho1 (Kd.R_lt (rr_ HO_939000))) (Kd.R_lt (rr_ HO_939001))) (Kd.R_lt (rr_ HO941))) (below_size hB_))
                replace HO_939000 := Aside0.mk (Kd.R_mono (Kd.R_told (Kd.R_told (Kd.R_old (rr_ HO_939000) hb) (Kd.R_base ho0)) (Kd.R_base ho1)) (fun _ h_ => h_.1))
                replace HO_939001 := Aside0.mk (Kd.R_mono (Kd.R_told (Kd.R_told (Kd.R_old (rr_ HO_939001) hb) (Kd.R_base ho0)) (Kd.R_base ho1)) (fun _ h_ => h_.1))
                replace HO941 := Aside0.mk (Kd.R_mono (Kd.R_told (Kd.R_told (Kd.R_old (rr_ HO941) hb) (Kd.R_base ho0)) (Kd.R_base ho1)) (fun _ h_ => h_.1))
                replace BK927 := bb_ BK927 hb
                replace BK928 := bb_ BK928 hb
                replace BK938 := bb_ BK938 hb
                replace BK948 := bb_ BK948 hb
                replace HB := b1_ hb
                clear hb ho0 ho1
                refine hK.out _ _ ⟨cz0_ BK927, cz1_ BK927⟩ (fun hHeld => ?_)
                clear hK K
                refine no_ (some 21) ?_
                exact norm_ (by simp only [putAll, Act.put, List.setIfInBounds_toArray, List.set_cons_zero, List.set_cons_succ]) (hCont (.slice Ao27 t939.length co27, v943, v946, gb948) _ ⟨hHeld, (rw_ (Kd.R_mono HO941.out (fun _ hk => ⟨hk.1.2, ⟨hk.2, ⟨hk.1.1.1.2, hk.1.1.2⟩⟩⟩))), (rw_ (Kd.R_mono HO944.out (fun _ hk => ⟨hk.2, ⟨hk.1.1.1, ⟨hk.1.1.2, hk.1.2⟩⟩⟩))), (rw_ (Kd.R_mono HO947.out (fun _ hk => ⟨hk.2, ⟨hk.1.1.1, ⟨hk.1.1.2, hk.1.2⟩⟩⟩))), (rw_ (Kd.R_mono HO_939000.out (fun _ hk => ⟨hk.1.1.2, ⟨hk.1.2, ⟨hk.2, hk.1.1.1⟩⟩⟩))), (rw_ (Kd.R_mono HO_939001.out (fun _ hk => ⟨hk.1.1.2, ⟨hk.1.2, ⟨hk.2, hk.1.1.1⟩⟩⟩))), (kk_ BK927), (kk_ BK928), (kk_ BK938), (kk_ BK948), GW948.out, GE948.out, NB927_948.out, NB948_927.out, NB928_948.out, NB948_928.out, NB938_948.out, NB948_938.out, hB_⟩)
            · skip
              refine box_step ?hg (N := 5) ?hd (cs := #[.slice none 0 0, .slice none 0 0]) (t := 33) ?hr ?_; (case hd => rfl); (case hg => rfl); (case hr => first | (go_simp; done) | (go_simp; rfl))
              intro gb948 hg w25 hbox hb
              replace HO_939000 := rb_ HO_939000 hb
              replace HO_939001 := rb_ HO_939001 hb
              have BK948 := Aside0.mk hbox
              have GW948 := gw_ w hg
              have GE948 := GW948
              replace HB := b1_ hb
              have NB927_948 := gN_ BK927 hg
              have NB948_927 := gP_ BK927 hg
              replace BK927 := bb_ BK927 hb
              have NB928_948 := gN_ BK928 hg
              have NB948_928 := gP_ BK928 hg
              replace BK928 := bb_ BK928 hb
              have NB938_948 := gN_ BK938 hg
              have NB948_938 := gP_ BK938 hg
              replace BK938 := bb_ BK938 hb
              clear hb hbox hg
              refine hK.out _ _ ⟨cz0_ BK927, cz1_ BK927⟩ (fun hHeld => ?_)
              clear hK K
              refine no_ (some 5) ?_
              refine one_ (i := 3) (N := some 20) (bl_ 7 47) rfl rfl (by kernel_rfl) (by decide) (fun K hK => ?_)
              refine gO_ Try.func130 #[.agg #[.slice A0_0 l0_0.length c0_0, .slice A0_1 l0_1.length c0_1], .int .i64 x4_1] (by rfl) rfl rfl qa_ ?_
              with_reducible refine (spec_l03Names.calls k1 _ _ l0_0 _ _ l0_1 x4_1 t939 _ (cb_ HR0_0) HC0_0.out (cb_ HR0_1) HC0_1.out A17.out).mono ?_
              rintro e w26 ⟨v940, rfl, ho0, hb⟩
              refine ⟨_, rfl, ?_⟩
              have HO941 := Aside0.mk (Kd.R_lower (Kd.R_new' (Kd.R_new' ho0 (Kd.R_lt (rr_ HO_939000))) (Kd.R_lt (rr_ HO_939001))) (below_size hB_))
              replace HO_939000 := Aside0.mk (Kd.R_elder' (rr_ HO_939000) (Kd.R_base ho0) hb)
              replace HO_939001 := Aside0.mk (Kd.R_elder' (rr_ HO_939001) (Kd.R_base ho0) hb)
              replace BK927 := bb_ BK927 hb
              replace BK928 := bb_ BK928 hb
              replace BK938 := bb_ BK938 hb
              replace BK948 := bb_ BK948 hb
              replace HB := b1_ hb
              clear hb ho0
              obtain ⟨Ao27, co27, eo27⟩ := Kd.R_slice HO941.out
              (first | subst eo27 | (injection eo27 with f1_ f2_ f3_; have f4_ := f1_.symm; have f5_ := f3_.symm; clear f1_ f2_ f3_; subst f4_; subst f5_))
              refine hK.out _ _ ⟨cz0_ BK927, cz1_ BK927⟩ (fun hHeld => ?_)
              clear hK K
              refine no_ (some 20) ?_
              refine one_ (i := 4) (N := some 21) (bl_ 7 63) rfl rfl (by kernel_rfl) (by decide) (fun K hK => ?_)
              refine gO_ Try.func129 #[.agg #[.slice A0_0 l0_0.length c0_0, .slice A0_1 l0_1.length c0_1], .slice Ao27 t939.length co27] (by rfl) rfl rfl qa_ ?_
              with_reducible refine (spec_l03Rename.calls k1 _ _ l0_0 _ _ l0_1 _ _ t939 t942 t945 _ (cb_ HR0_0) HC0_0.out (cb_ HR0_1) HC0_1.out (cr_ HO941) ((Kd.R_reads' HO941.out).2.1) A18.out).mono ?_
              rintro e w28 ⟨v943, v946, rfl, ho0, ho1, hb⟩
              refine ⟨_, rfl, ?_⟩
              have HO944 := Aside0.mk (Kd.R_lower (Kd.R_new' (Kd.R_new' (Kd.R_new' ho0 (Kd.R_lt (rr_ HO_939000))) (Kd.R_lt (rr_ HO_939001))) (Kd.R_lt (rr_ HO941))) (below_size hB_))
              have HO947 := Aside0.mk (Kd.R_lower (Kd.R_new' (Kd.R_new' (Kd.R_new' ho1 (Kd.R_lt (rr_ HO_939000))) (Kd.R_lt (rr_ HO_939001))) (Kd.R_lt (rr_ HO941))) (below_size hB_))
              replace HO_939000 := Aside0.mk (Kd.R_mono (Kd.R_told (Kd.R_told (Kd.R_old (rr_ HO_939000) hb) (Kd.R_base ho0)) (Kd.R_base ho1)) (fun _ h_ => h_.1))
              replace HO_939001 := Aside0.mk (Kd.R_mono (Kd.R_told (Kd.R_told (Kd.R_old (rr_ HO_939001) hb) (Kd.R_base ho0)) (Kd.R_base ho1)) (fun _ h_ => h_.1))
              replace HO941 := Aside0.mk (Kd.R_mono (Kd.R_told (Kd.R_told (Kd.R_old (rr_ HO941) hb) (Kd.R_base ho0)) (Kd.R_base ho1)) (fun _ h_ => h_.1))
              replace BK927 := bb_ BK927 hb
              replace BK928 := bb_ BK928 hb
              replace BK938 := bb_ BK938 hb
              replace BK948 := bb_ BK948 hb
              replace HB := b1_ hb
              clear hb ho0 ho1
              refine hK.out _ _ ⟨cz0_ BK927, cz1_ BK927⟩ (fun hHeld => ?_)
              clear hK K
              refine no_ (some 21) ?_
              exact norm_ (by simp only [putAll, Act.put, List.setIfInBounds_toArray, List.set_cons_zero, List.set_cons_succ]) (hCont (.slice Ao27 t939.length co27, v943, v946, gb948) _ ⟨hHeld, (rw_ (Kd.R_mono HO941.out (fun _ hk => ⟨hk.1.2, ⟨hk.2, ⟨hk.1.1.1.2, hk.1.1.2⟩⟩⟩))), (rw_ (Kd.R_mono HO944.out (fun _ hk => ⟨hk.2, ⟨hk.1.1.1, ⟨hk.1.1.2, hk.1.2⟩⟩⟩))), (rw_ (Kd.R_mono HO947.out (fun _ hk => ⟨hk.2, ⟨hk.1.1.1, ⟨hk.1.1.2, hk.1.2⟩⟩⟩))), (rw_ (Kd.R_mono HO_939000.out (fun _ hk => ⟨hk.1.1.2, ⟨hk.1.2, ⟨hk.2, hk.1.1.1⟩⟩⟩))), (rw_ (Kd.R_mono HO_939001.out (fun _ hk => ⟨hk.1.1.2, ⟨hk.1.2, ⟨hk.2, hk.1.1.1⟩⟩⟩))), (kk_ BK927), (kk_ BK928), (kk_ BK938), (kk_ BK948), GW948.out, GE948.out, NB927_948.out, NB948_927.out, NB928_948.out, NB948_928.out, NB938_948.out, NB948_938.out, hB_⟩)
          rintro ⟨v940, v943, v946, gb948⟩ w29 ⟨hS_, h0_, h1_, h2_, h3_, h4_, h5_, h6_, h7_, h8_, h9_, h10_, h11_, h12_, h13_, h14_, h15_, h16_, h17_⟩
          have n0_ : Aside0 (Kd.R (Kd.int .i64) 3 w29 w.heap.size (fun k_ => some k_ ≠ (v943 : Value).ownBlock ∧ some k_ ≠ (v946 : Value).ownBlock ∧ some k_ ≠ (u939000 : Value).ownBlock ∧ some k_ ≠ (u939001 : Value).ownBlock) v940 t939) := ⟨h0_⟩
          have n1_ : Aside0 (Kd.R (Kd.int .i64) 3 w29 w.heap.size (fun k_ => some k_ ≠ (v940 : Value).ownBlock ∧ some k_ ≠ (v946 : Value).ownBlock ∧ some k_ ≠ (u939000 : Value).ownBlock ∧ some k_ ≠ (u939001 : Value).ownBlock) v943 t942) := ⟨h1_⟩
          have n2_ : Aside0 (Kd.R (Kd.int .i64) 3 w29 w.heap.size (fun k_ => some k_ ≠ (v940 : Value).ownBlock ∧ some k_ ≠ (v943 : Value).ownBlock ∧ some k_ ≠ (u939000 : Value).ownBlock ∧ some k_ ≠ (u939001 : Value).ownBlock) v946 t945) := ⟨h2_⟩
          have n3_ : Aside0 (Kd.R (Kd.int .i64) 3 w29 w.heap.size (fun k_ => some k_ ≠ (v940 : Value).ownBlock ∧ some k_ ≠ (v943 : Value).ownBlock ∧ some k_ ≠ (v946 : Value).ownBlock ∧ some k_ ≠ (u939001 : Value).ownBlock) u939000 x939000_1) := ⟨h3_⟩
          have n4_ : Aside0 (Kd.R (Kd.int .i64) 3 w29 w.heap.size (fun k_ => some k_ ≠ (v940 : Value).ownBlock ∧ some k_ ≠ (v943 : Value).ownBlock ∧ some k_ ≠ (v946 : Value).ownBlock ∧ some k_ ≠ (u939000 : Value).ownBlock) u939001 x939001_1) := ⟨h4_⟩
          have n5_ : Aside0 (w29.heap[gb927]? = some (.cells #[.slice A0_0 l0_0.length c0_0, .slice A0_1 l0_1.length c0_1] 33 (0, 0))) := ⟨h5_⟩
          have n6_ : Aside0 (w29.heap[gb928]? = some (.cells #[.slice none 0 0, .slice none 0 0] 33 (0, 0))) := ⟨h6_⟩
          have n7_ : Aside0 (w29.heap[gb938]? = some (.cells #[u939000, u939001] 33 (0, 0))) := ⟨h7_⟩
          have n8_ : Aside0 (w29.heap[gb948]? = some (.cells #[.slice none 0 0, .slice none 0 0] 33 (0, 0))) := ⟨h8_⟩
          have n9_ : Aside0 (w.heap.size ≤ gb948) := ⟨h9_⟩
          have n10_ : Aside0 (w.heap.size ≤ gb948) := ⟨h10_⟩
          have n11_ : Aside0 (gb927 ≠ gb948) := ⟨h11_⟩
          have n12_ : Aside0 (gb948 ≠ gb927) := ⟨h12_⟩
          have n13_ : Aside0 (gb928 ≠ gb948) := ⟨h13_⟩
          have n14_ : Aside0 (gb948 ≠ gb928) := ⟨h14_⟩
          have n15_ : Aside0 (gb938 ≠ gb948) := ⟨h15_⟩
          have n16_ : Aside0 (gb948 ≠ gb938) := ⟨h16_⟩
          have n17_ : Aside0 (Below w.heap.size w w29) := ⟨h17_⟩
          clear HO_939000
          clear HO_939001
          clear BK927
          clear BK928
          clear BK938
          clear HB
          clear h0_ h1_ h2_ h3_ h4_ h5_ h6_ h7_ h8_ h9_ h10_ h11_ h12_ h13_ h14_ h15_ h16_ h17_
          have HO941 := n0_
          have HO944 := n1_
          have HO947 := n2_
          have HO_939000 := n3_
          have HO_939001 := n4_
          have BK927 := n5_
          have BK928 := n6_
          have BK938 := n7_
          have BK948 := n8_
          have GW948 := n9_
          have GE948 := n10_
          have NB927_948 := n11_
          have NB948_927 := n12_
          have NB928_948 := n13_
          have NB948_928 := n14_
          have NB938_948 := n15_
          have NB948_938 := n16_
          have HB := n17_
          clear n0_ n1_ n2_ n3_ n4_ n5_ n6_ n7_ n8_ n9_ n10_ n11_ n12_ n13_ n14_ n15_ n16_ n17_
          have hHeld : w29.cell? ⟨gb927, 0, none⟩ = some (.slice A0_0 l0_0.length c0_0) ∧ w29.cell? ⟨gb927, 1, none⟩ = some (.slice A0_1 l0_1.length c0_1) := hS_
          obtain ⟨Ao30, co30, eo30⟩ := Kd.R_slice HO944.out
          (first | subst eo30 | (injection eo30 with f1_ f2_ f3_; have f4_ := f1_.symm; have f5_ := f3_.symm; clear f1_ f2_ f3_; subst f4_; subst f5_))
          obtain ⟨Ao32, co32, eo32⟩ := Kd.R_slice HO947.out
          (first | subst eo32 | (injection eo32 with f1_ f2_ f3_; have f4_ := f1_.symm; have f5_ := f3_.symm; clear f1_ f2_ f3_; subst f4_; subst f5_))
          refine norm_ (a' := ?_) ?_ ?_
          rotate_left
          · simp only [putAll, Act.put, List.setIfInBounds_toArray, List.set_cons_zero, List.set_cons_succ]
            rfl
          refine one_ (i := 6) (N := none) (bl_ 7 127) rfl rfl (by kernel_rfl) (by decide) (fun K hK => ?_)
          have hs31 : w29.cell? ⟨gb948, 0, none⟩ = some (.slice none 0 0) := cz0_ BK948
          have hfs31 := blk_frozen BK948.out 0
          have hns31_0 := NB927_948.out
          have hns31_1 := NB928_948.out
          have hns31_2 := NB938_948.out
          have hms31_0 := NB948_927.out
          have hms31_1 := NB948_928.out
          have hms31_2 := NB948_938.out
          have hs33 : w29.cell? ⟨gb948, 1, none⟩ = some (.slice none 0 0) := cz1_ BK948
          have hfs33 := blk_frozen BK948.out 1
          have hns33_0 := NB927_948.out
          have hns33_1 := NB928_948.out
          have hns33_2 := NB938_948.out
          have hms33_0 := NB948_927.out
          have hms33_1 := NB948_928.out
          have hms33_2 := NB948_938.out
          refine skip_ (w1 := ?_) (by rfl) rfl ?_ ?_
          rotate_left
          · go_simp
            rfl
          refine hK.out _ _ ⟨((cell_far (p := ⟨gb948, _, none⟩) NB927_948.out _).trans (((cell_far (p := ⟨gb948, _, none⟩) NB927_948.out _).trans (hHeld.1)))), ((cell_far (p := ⟨gb948, _, none⟩) NB927_948.out _).trans (((cell_far (p := ⟨gb948, _, none⟩) NB927_948.out _).trans (hHeld.2))))⟩ (fun hHeld => ?_)
          clear hK K
          refine done_ (by kernel_rfl) ?_
          have hnb34 := NB948_927.out
          have hnc34 := NB927_948.out
          have hnb35 := NB948_928.out
          have hnc35 := NB928_948.out
          have hnb36 := NB948_938.out
          have hnc36 := NB938_948.out
          obtain ⟨hcz37_0, hcz37_1, hfz37_0, hfz37_1⟩ := c2_ BK948
          have hnb38 := NB938_928.out
          have hnc38 := NB928_938.out
          obtain ⟨hcz39_0, hcz39_1, hfz39_0, hfz39_1⟩ := c2_ BK938
          obtain ⟨Ao40, co40, eo40⟩ := Kd.R_slice HO_939000.out
          subst eo40
          obtain ⟨Ao41, co41, eo41⟩ := Kd.R_slice HO_939001.out
          subst eo41
          try go_wp2_with (first | ((with_reducible refine gate_callee (f := 128) rfl ?_); refine gL_ (some 24) Try.func128 #[.agg #[.slice Ao30 t942.length co30, .slice Ao32 t945.length co32], .agg #[.slice Ao40 x939000_1.length co40, .slice Ao41 x939001_1.length co41]] rfl qa_ ?_; (with_reducible refine (spec_l03Before.calls k1 _ _ t942 _ _ t945 _ _ x939000_1 _ _ x939001_1 true _ ?side1 ?side2 ?side3 ?side4 ?side5 ?side6 ?side7 ?side8 A19.out).mono ?_); (case side1 => refine (Kd.R_reads' (e := 3) (base := w.heap.size) (ok := fun k_ => (some k_ ≠ (v940 : Value).ownBlock ∧ (some k_ ≠ (.slice Ao32 t945.length co32 : Value).ownBlock ∧ (some k_ ≠ (.slice Ao40 x939000_1.length co40 : Value).ownBlock ∧ some k_ ≠ (.slice Ao41 x939001_1.length co41 : Value).ownBlock)))) (n := t942.length) (c := co30) ?_).2.2; exact (rw_ (fa_ HO944 BK948))); (case side2 => exact (Kd.R_reads' HO944.out).2.1); (case side3 => refine (Kd.R_reads' (e := 3) (base := w.heap.size) (ok := fun k_ => (some k_ ≠ (v940 : Value).ownBlock ∧ (some k_ ≠ (.slice Ao30 t942.length co30 : Value).ownBlock ∧ (some k_ ≠ (.slice Ao40 x939000_1.length co40 : Value).ownBlock ∧ some k_ ≠ (.slice Ao41 x939001_1.length co41 : Value).ownBlock)))) (n := t945.length) (c := co32) ?_).2.2; exact (rw_ (fa_ HO947 BK948))); (case side4 => exact (Kd.R_reads' HO947.out).2.1); (case side5 => refine (Kd.R_reads' (e := 3) (base := w.heap.size) (ok := fun k_ => (some k_ ≠ (v940 : Value).ownBlock ∧ (some k_ ≠ (.slice Ao30 t942.length co30 : Value).ownBlock ∧ (some k_ ≠ (.slice Ao32 t945.length co32 : Value).ownBlock ∧ some k_ ≠ (.slice Ao41 x939001_1.length co41 : Value).ownBlock)))) (n := x939000_1.length) (c := co40) ?_).2.2; exact (rw_ (fa_ HO_939000 BK948))); (case side6 => exact (Kd.R_reads' HO_939000.out).2.1); (case side7 => refine (Kd.R_reads' (e := 3) (base := w.heap.size) (ok := fun k_ => (some k_ ≠ (v940 : Value).ownBlock ∧ (some k_ ≠ (.slice Ao30 t942.length co30 : Value).ownBlock ∧ (some k_ ≠ (.slice Ao32 t945.length co32 : Value).ownBlock ∧ some k_ ≠ (.slice Ao40 x939000_1.length co40 : Value).ownBlock)))) (n := x939001_1.length) (c := co41) ?_).2.2; exact (rw_ (fa_ HO_939001 BK948))); (case side8 => exact (Kd.R_reads' HO_939001.out).2.1); rintro e w42 ⟨rfl, hb⟩; refine ⟨_, rfl, ?_⟩; replace HO_939000 := Aside0.mk (Kd.R_below (rw_ (fa_ HO_939000 BK948)) hb); replace HO_939001 := Aside0.mk (Kd.R_below (rw_ (fa_ HO_939001 BK948)) hb); replace HO941 := Aside0.mk (Kd.R_below (rw_ (fa_ HO941 BK948)) hb); replace HO944 := Aside0.mk (Kd.R_below (rw_ (fa_ HO944 BK948)) hb); replace HO947 := Aside0.mk (Kd.R_below (rw_ (fa_ HO947 BK948)) hb); replace BK927 := Aside0.mk (blk_below (g := gb927) (o := .cells #[.slice A0_0 l0_0.length c0_0, .slice A0_1 l0_1.length c0_1] 33 (0, 0)) (by (with_reducible repeat (first | refine blk_drewN ?_ _ | refine blk_drew ?_ | refine blk_alloc ?_ _)); refine blk_far ?_ NB927_948.out _; (with_reducible repeat (first | refine blk_drewN ?_ _ | refine blk_drew ?_ | refine blk_alloc ?_ _)); refine blk_far ?_ NB927_948.out _; (with_reducible repeat (first | refine blk_drewN ?_ _ | refine blk_drew ?_ | refine blk_alloc ?_ _)); exact BK927.out) hb); replace BK928 := Aside0.mk (blk_below (g := gb928) (o := .cells #[.slice none 0 0, .slice none 0 0] 33 (0, 0)) (by (with_reducible repeat (first | refine blk_drewN ?_ _ | refine blk_drew ?_ | refine blk_alloc ?_ _)); refine blk_far ?_ NB928_948.out _; (with_reducible repeat (first | refine blk_drewN ?_ _ | refine blk_drew ?_ | refine blk_alloc ?_ _)); refine blk_far ?_ NB928_948.out _; (with_reducible repeat (first | refine blk_drewN ?_ _ | refine blk_drew ?_ | refine blk_alloc ?_ _)); exact BK928.out) hb); replace BK938 := Aside0.mk (blk_below (g := gb938) (o := .cells #[.slice Ao40 x939000_1.length co40, .slice Ao41 x939001_1.length co41] 33 (0, 0)) (by (with_reducible repeat (first | refine blk_drewN ?_ _ | refine blk_drew ?_ | refine blk_alloc ?_ _)); refine blk_far ?_ NB938_948.out _; (with_reducible repeat (first | refine blk_drewN ?_ _ | refine blk_drew ?_ | refine blk_alloc ?_ _)); refine blk_far ?_ NB938_948.out _; (with_reducible repeat (first | refine blk_drewN ?_ _ | refine blk_drew ?_ | refine blk_alloc ?_ _)); exact BK938.out) hb); replace BK948 := Aside0.mk (blk_below (g := gb948) (o := .cells #[.slice Ao30 t942.length co30, .slice Ao32 t945.length co32] 33 (0, 0)) qp_ hb); replace HB := b1_ hb; clear hb; obtain ⟨hcz43_0, hcz43_1, hfz43_0, hfz43_1⟩ := c2_ BK948; obtain ⟨hcz44_0, hcz44_1, hfz44_0, hfz44_1⟩ := c2_ BK938))
          go_roundg k1
          case measure => have := HK1.out; omega
          case rel => exact ⟨(wrap64 (x4_1 + 1)), (t942), (t945), (.slice Ao30 t942.length co30), (.slice Ao32 t945.length co32), qc_, H', ⟨by have := HK1.out; omega⟩, ⟨(rw_ (Kd.R_mono (fa_ HO944 BK938) (fun _ hk => hk.2.1)))⟩, ⟨(rw_ (Kd.R_mono (fa_ HO947 BK938) (fun _ hk => hk.2.1)))⟩, ⟨by (with_reducible repeat (first | refine blk_drewN ?_ _ | refine blk_drew ?_ | refine blk_alloc ?_ _)); refine blk_far ?_ NB927_938.out _; (with_reducible repeat (first | refine blk_drewN ?_ _ | refine blk_drew ?_ | refine blk_alloc ?_ _)); refine blk_far ?_ NB927_938.out _; (with_reducible repeat (first | refine blk_drewN ?_ _ | refine blk_drew ?_ | refine blk_alloc ?_ _)); exact BK927.out⟩, ⟨by (with_reducible repeat (first | refine blk_drewN ?_ _ | refine blk_drew ?_ | refine blk_alloc ?_ _)); refine blk_far ?_ NB928_938.out _; (with_reducible repeat (first | refine blk_drewN ?_ _ | refine blk_drew ?_ | refine blk_alloc ?_ _)); refine blk_far ?_ NB928_938.out _; (with_reducible repeat (first | refine blk_drewN ?_ _ | refine blk_drew ?_ | refine blk_alloc ?_ _)); exact BK928.out⟩, ⟨qp_⟩, ⟨hB_⟩⟩
        · replace c20 := Bool.eq_false_iff.mpr c20
          subst c20
          have H1 : (spec_l03Canon.l0 k1 (wrap64 (x4_1 + 1)) l0_0 l0_1 x939000_1 x939001_1) = some (r1, r2) := by rw [if_neg (show ¬ (false = true) by decide)] at H; exact H
          clear H
          have H := H1
          clear H1
          have H' := Aside0.mk H
          clear H
          have hnb45 := NB927_928.out
          have hnc45 := NB928_927.out
          have hnb46 := NB927_938.out
          have hnc46 := NB938_927.out
          obtain ⟨hcz47_0, hcz47_1, hfz47_0, hfz47_1⟩ := c2_ BK927
          try go_wp2
          replace HO_939000 := Aside0.mk (Kd.R_drew HO_939000.out)
          replace HO_939001 := Aside0.mk (Kd.R_drew HO_939001.out)
          replace BK927 := Aside0.mk (blk_drew BK927.out)
          replace BK928 := Aside0.mk (blk_drew BK928.out)
          replace BK938 := Aside0.mk (blk_drew BK938.out)
          replace HB := Aside0.mk (below_drew1 HB.out)
          refine start_ (n := 7) (S := fun w' => w'.cell? ⟨gb927, 0, none⟩ = some (.slice A0_0 l0_0.length c0_0) ∧ w'.cell? ⟨gb927, 1, none⟩ = some (.slice A0_1 l0_1.length c0_1)) (ds := []) (bl_ 7 0) (by kernel_rfl) rfl (by kernel_rfl) ⟨cz0_ BK927, cz1_ BK927⟩ (fun hHeld => ?_)
          generalize wr.drew = w48 at HO_939000 HO_939001 BK927 BK928 BK938 HB hHeld ⊢
          refine pure_ (i := 2) (N := some 19) (v := ?_) (a' := ?_) (bl_ 7 4) rfl rfl (by kernel_rfl) (fun _ _ _ h => h) (Or.inl ⟨by rfl, ?_⟩) ?_ ?_
          rotate_left
          · intro w'
            go_simp
            with_reducible rfl
          rotate_left
          · simp only [Act.put, List.setIfInBounds_toArray, List.set_cons_zero, List.set_cons_succ, i64_w, i32_w]
            rfl
          refine take_ (i := 0) (N := some 17) (v := ?_) (a' := ?_) (bl_ 7 5) rfl rfl (by kernel_rfl) (fun _ _ _ h => h) (Or.inl ⟨by rfl, ?_⟩) hHeld ?_ ?_
          rotate_left
          · rintro w' ⟨s0, s1⟩
            go_simp
            with_reducible rfl
          rotate_left
          · simp only [Act.put, List.setIfInBounds_toArray, List.set_cons_zero, List.set_cons_succ, i64_w, i32_w]
            rfl
          refine take_ (i := 1) (N := some 18) (v := ?_) (a' := ?_) (bl_ 7 7) rfl rfl (by kernel_rfl) (fun _ _ _ h => h) (Or.inl ⟨by rfl, ?_⟩) hHeld ?_ ?_
          rotate_left
          · rintro w' ⟨s0, s1⟩
            go_simp
            with_reducible rfl
          rotate_left
          · simp only [Act.put, List.setIfInBounds_toArray, List.set_cons_zero, List.set_cons_succ, i64_w, i32_w]
            rfl
          refine join_ (σ := Value × Value × Value × Nat) 1 (bl_ 7 63) (fun s_ => [(20, s_.1), (21, .agg #[s_.2.1, s_.2.2.1]), (5, .pointer (some ⟨s_.2.2.2, 0, none⟩))]) (fun s_ w' => (w'.cell? ⟨gb927, 0, none⟩ = some (.slice A0_0 l0_0.length c0_0) ∧ w'.cell? ⟨gb927, 1, none⟩ = some (.slice A0_1 l0_1.length c0_1)) ∧ (Kd.R (Kd.int .i64) 3 w' w.heap.size (fun k_ => some k_ ≠ (s_.2.1 : Value).ownBlock ∧ some k_ ≠ (s_.2.2.1 : Value).ownBlock ∧ some k_ ≠ (u939000 : Value).ownBlock ∧ some k_ ≠ (u939001 : Value).ownBlock) s_.1 t939) ∧ (Kd.R (Kd.int .i64) 3 w' w.heap.size (fun k_ => some k_ ≠ (s_.1 : Value).ownBlock ∧ some k_ ≠ (s_.2.2.1 : Value).ownBlock ∧ some k_ ≠ (u939000 : Value).ownBlock ∧ some k_ ≠ (u939001 : Value).ownBlock) s_.2.1 t942) ∧ (Kd.R (Kd.int .i64) 3 w' w.heap.size (fun k_ => some k_ ≠ (s_.1 : Value).ownBlock ∧ some k_ ≠ (s_.2.1 : Value).ownBlock ∧ some k_ ≠ (u939000 : Value).ownBlock ∧ some k_ ≠ (u939001 : Value).ownBlock) s_.2.2.1 t945) ∧ (Kd.R (Kd.int .i64) 3 w' w.heap.size (fun k_ => some k_ ≠ (s_.1 : Value).ownBlock ∧ some k_ ≠ (s_.2.1 : Value).ownBlock ∧ some k_ ≠ (s_.2.2.1 : Value).ownBlock ∧ some k_ ≠ (u939001 : Value).ownBlock) u939000 x939000_1) ∧ (Kd.R (Kd.int .i64) 3 w' w.heap.size (fun k_ => some k_ ≠ (s_.1 : Value).ownBlock ∧ some k_ ≠ (s_.2.1 : Value).ownBlock ∧ some k_ ≠ (s_.2.2.1 : Value).ownBlock ∧ some k_ ≠ (u939000 : Value).ownBlock) u939001 x939001_1) ∧ (w'.heap[gb927]? = some (.cells #[.slice A0_0 l0_0.length c0_0, .slice A0_1 l0_1.length c0_1] 33 (0, 0))) ∧ (w'.heap[gb928]? = some (.cells #[.slice none 0 0, .slice none 0 0] 33 (0, 0))) ∧ (w'.heap[gb938]? = some (.cells #[u939000, u939001] 33 (0, 0))) ∧ (w'.heap[s_.2.2.2]? = some (.cells #[.slice none 0 0, .slice none 0 0] 33 (0, 0))) ∧ (w.heap.size ≤ s_.2.2.2) ∧ (w.heap.size ≤ s_.2.2.2) ∧ (gb927 ≠ s_.2.2.2) ∧ (s_.2.2.2 ≠ gb927) ∧ (gb928 ≠ s_.2.2.2) ∧ (s_.2.2.2 ≠ gb928) ∧ (gb938 ≠ s_.2.2.2) ∧ (s_.2.2.2 ≠ gb938) ∧ (Below w.heap.size w w')) ?_ ?_
          rotate_left
          · intro hCont
            refine two_ (i := 3) (j := 5) (Ni := some 20) (Nj := some 5) (bl_ 7 15) (bl_ 7 39) rfl rfl rfl rfl (by kernel_rfl) (by decide) (by decide) (fun K hK => ?_) (fun K hK => ?_)
            · skip
              refine gO_ Try.func130 #[.agg #[.slice A0_0 l0_0.length c0_0, .slice A0_1 l0_1.length c0_1], .int .i64 x4_1] (by rfl) rfl rfl qa_ ?_
              with_reducible refine (spec_l03Names.calls k1 _ _ l0_0 _ _ l0_1 x4_1 t939 _ (cb_ HR0_0) HC0_0.out (cb_ HR0_1) HC0_1.out A17.out).mono ?_
              rintro e w49 ⟨v940, rfl, ho0, hb⟩
              refine ⟨_, rfl, ?_⟩
              have HO941 := Aside0.mk (Kd.R_lower (Kd.R_new' (Kd.R_new' ho0 (Kd.R_lt (rr_ HO_939000))) (Kd.R_lt (rr_ HO_939001))) (below_size hB_))
              replace HO_939000 := Aside0.mk (Kd.R_elder' (rr_ HO_939000) (Kd.R_base ho0) hb)
              replace HO_939001 := Aside0.mk (Kd.R_elder' (rr_ HO_939001) (Kd.R_base ho0) hb)
              replace BK927 := bb_ BK927 hb
              replace BK928 := bb_ BK928 hb
              replace BK938 := bb_ BK938 hb
              replace HB := b1_ hb
              clear hb ho0
              obtain ⟨Ao50, co50, eo50⟩ := Kd.R_slice HO941.out
              (first | subst eo50 | (injection eo50 with f1_ f2_ f3_; have f4_ := f1_.symm; have f5_ := f3_.symm; clear f1_ f2_ f3_; subst f4_; subst f5_))
              refine hK.out _ _ ⟨cz0_ BK927, cz1_ BK927⟩ (fun hHeld => ?_)
              clear hK K
              refine no_ (some 20) ?_
              refine two_ (i := 4) (j := 5) (Ni := some 21) (Nj := some 5) (bl_ 7 31) (bl_ 7 47) rfl rfl rfl rfl (by kernel_rfl) (by decide) (by decide) (fun K hK => ?_) (fun K hK => ?_)
              · skip
                refine gO_ Try.func129 #[.agg #[.slice A0_0 l0_0.length c0_0, .slice A0_1 l0_1.length c0_1], .slice Ao50 t939.length co50] (by rfl) rfl rfl qa_ ?_
                with_reducible refine (spec_l03Rename.calls k1 _ _ l0_0 _ _ l0_1 _ _ t939 t942 t945 _ (cb_ HR0_0) HC0_0.out (cb_ HR0_1) HC0_1.out (cr_ HO941) ((Kd.R_reads' HO941.out).2.1) A18.out).mono ?_
                rintro e w51 ⟨v943, v946, rfl, ho0, ho1, hb⟩
                refine ⟨_, rfl, ?_⟩
                have HO944 := Aside0.mk (Kd.R_lower (Kd.R_new' (Kd.R_new' (Kd.R_new' ho0 (Kd.R_lt (rr_ HO_939000))) (Kd.R_lt (rr_ HO_939001))) (Kd.R_lt (rr_ HO941))) (below_size hB_))
                have HO947 := Aside0.mk (Kd.R_lower (Kd.R_new' (Kd.R_new' (Kd.R_new' ho1 (Kd.R_lt (rr_ HO_939000))) (Kd.R_lt (rr_ HO_939001))) (Kd.R_lt (rr_ HO941))) (below_size hB_))
                replace HO_939000 := Aside0.mk (Kd.R_mono (Kd.R_told (Kd.R_told (Kd.R_old (rr_ HO_939000) hb) (Kd.R_base ho0)) (Kd.R_base ho1)) (fun _ h_ => h_.1))
                replace HO_939001 := Aside0.mk (Kd.R_mono (Kd.R_told (Kd.R_told (Kd.R_old (rr_ HO_939001) hb) (Kd.R_base ho0)) (Kd.R_base ho1)) (fun _ h_ => h_.1))
                replace HO941 := Aside0.mk (Kd.R_mono (Kd.R_told (Kd.R_told (Kd.R_old (rr_ HO941) hb) (Kd.R_base ho0)) (Kd.R_base ho1)) (fun _ h_ => h_.1))
                replace BK927 := bb_ BK927 hb
                replace BK928 := bb_ BK928 hb
                replace BK938 := bb_ BK938 hb
                replace HB := b1_ hb
                clear hb ho0 ho1
                refine hK.out _ _ ⟨cz0_ BK927, cz1_ BK927⟩ (fun hHeld => ?_)
                clear hK K
                refine no_ (some 21) ?_
                refine one_ (i := 5) (N := some 5) (bl_ 7 63) rfl rfl (by kernel_rfl) (by decide) (fun K hK => ?_)
                refine box_step ?hg (N := 5) ?hd (cs := #[.slice none 0 0, .slice none 0 0]) (t := 33) ?hr ?_; (case hd => rfl); (case hg => rfl); (case hr => first | (go_simp; done) | (go_simp; rfl))
                intro gb948 hg w52 hbox hb
                replace HO_939000 := rb_ HO_939000 hb
                replace HO_939001 := rb_ HO_939001 hb
                replace HO941 := rb_ HO941 hb
                replace HO944 := rb_ HO944 hb
                replace HO947 := rb_ HO947 hb
                have BK948 := Aside0.mk hbox
                have GW948 := gw_ w hg
                have GE948 := GW948
                replace HB := b1_ hb
                have NB927_948 := gN_ BK927 hg
                have NB948_927 := gP_ BK927 hg
                replace BK927 := bb_ BK927 hb
                have NB928_948 := gN_ BK928 hg
                have NB948_928 := gP_ BK928 hg
                replace BK928 := bb_ BK928 hb
                have NB938_948 := gN_ BK938 hg
                have NB948_938 := gP_ BK938 hg
                replace BK938 := bb_ BK938 hb
                clear hb hbox hg
                refine hK.out _ _ ⟨cz0_ BK927, cz1_ BK927⟩ (fun hHeld => ?_)
                clear hK K
                refine no_ (some 5) ?_
                exact norm_ (by simp only [putAll, Act.put, List.setIfInBounds_toArray, List.set_cons_zero, List.set_cons_succ]) (hCont (.slice Ao50 t939.length co50, v943, v946, gb948) _ ⟨hHeld, (rw_ (Kd.R_mono HO941.out (fun _ hk => ⟨hk.1.2, ⟨hk.2, ⟨hk.1.1.1.2, hk.1.1.2⟩⟩⟩))), (rw_ (Kd.R_mono HO944.out (fun _ hk => ⟨hk.2, ⟨hk.1.1.1, ⟨hk.1.1.2, hk.1.2⟩⟩⟩))), (rw_ (Kd.R_mono HO947.out (fun _ hk => ⟨hk.2, ⟨hk.1.1.1, ⟨hk.1.1.2, hk.1.2⟩⟩⟩))), (rw_ (Kd.R_mono HO_939000.out (fun _ hk => ⟨hk.1.1.2, ⟨hk.1.2, ⟨hk.2, hk.1.1.1⟩⟩⟩))), (rw_ (Kd.R_mono HO_939001.out (fun _ hk => ⟨hk.1.1.2, ⟨hk.1.2, ⟨hk.2, hk.1.1.1⟩⟩⟩))), (kk_ BK927), (kk_ BK928), (kk_ BK938), (kk_ BK948), GW948.out, GE948.out, NB927_948.out, NB948_927.out, NB928_948.out, NB948_928.out, NB938_948.out, NB948_938.out, hB_⟩)
              · skip
                refine box_step ?hg (N := 5) ?hd (cs := #[.slice none 0 0, .slice none 0 0]) (t := 33) ?hr ?_; (case hd => rfl); (case hg => rfl); (case hr => first | (go_simp; done) | (go_simp; rfl))
                intro gb948 hg w50 hbox hb
                replace HO_939000 := rb_ HO_939000 hb
                replace HO_939001 := rb_ HO_939001 hb
                replace HO941 := rb_ HO941 hb
                have BK948 := Aside0.mk hbox
                have GW948 := gw_ w hg
                have GE948 := GW948
                replace HB := b1_ hb
                have NB927_948 := gN_ BK927 hg
                have NB948_927 := gP_ BK927 hg
                replace BK927 := bb_ BK927 hb
                have NB928_948 := gN_ BK928 hg
                have NB948_928 := gP_ BK928 hg
                replace BK928 := bb_ BK928 hb
                have NB938_948 := gN_ BK938 hg
                have NB948_938 := gP_ BK938 hg
                replace BK938 := bb_ BK938 hb
                clear hb hbox hg
                obtain ⟨Ao51, co51, eo51⟩ := Kd.R_slice HO941.out
                (first | subst eo51 | (injection eo51 with f1_ f2_ f3_; have f4_ := f1_.symm; have f5_ := f3_.symm; clear f1_ f2_ f3_; subst f4_; subst f5_))
                refine hK.out _ _ ⟨cz0_ BK927, cz1_ BK927⟩ (fun hHeld => ?_)
                clear hK K
                refine no_ (some 5) ?_
                refine one_ (i := 4) (N := some 21) (bl_ 7 63) rfl rfl (by kernel_rfl) (by decide) (fun K hK => ?_)
                refine gO_ Try.func129 #[.agg #[.slice A0_0 l0_0.length c0_0, .slice A0_1 l0_1.length c0_1], .slice Ao51 t939.length co51] (by rfl) rfl rfl qa_ ?_
                with_reducible refine (spec_l03Rename.calls k1 _ _ l0_0 _ _ l0_1 _ _ t939 t942 t945 _ (cb_ HR0_0) HC0_0.out (cb_ HR0_1) HC0_1.out (cr_ HO941) ((Kd.R_reads' HO941.out).2.1) A18.out).mono ?_
                rintro e w52 ⟨v943, v946, rfl, ho0, ho1, hb⟩
                refine ⟨_, rfl, ?_⟩
                have HO944 := Aside0.mk (Kd.R_lower (Kd.R_new' (Kd.R_new' (Kd.R_new' ho0 (Kd.R_lt (rr_ HO_939000))) (Kd.R_lt (rr_ HO_939001))) (Kd.R_lt (rr_ HO941))) (below_size hB_))
                have HO947 := Aside0.mk (Kd.R_lower (Kd.R_new' (Kd.R_new' (Kd.R_new' ho1 (Kd.R_lt (rr_ HO_939000))) (Kd.R_lt (rr_ HO_939001))) (Kd.R_lt (rr_ HO941))) (below_size hB_))
                replace HO_939000 := Aside0.mk (Kd.R_mono (Kd.R_told (Kd.R_told (Kd.R_old (rr_ HO_939000) hb) (Kd.R_base ho0)) (Kd.R_base ho1)) (fun _ h_ => h_.1))
                replace HO_939001 := Aside0.mk (Kd.R_mono (Kd.R_told (Kd.R_told (Kd.R_old (rr_ HO_939001) hb) (Kd.R_base ho0)) (Kd.R_base ho1)) (fun _ h_ => h_.1))
                replace HO941 := Aside0.mk (Kd.R_mono (Kd.R_told (Kd.R_told (Kd.R_old (rr_ HO941) hb) (Kd.R_base ho0)) (Kd.R_base ho1)) (fun _ h_ => h_.1))
                replace BK927 := bb_ BK927 hb
                replace BK928 := bb_ BK928 hb
                replace BK938 := bb_ BK938 hb
                replace BK948 := bb_ BK948 hb
                replace HB := b1_ hb
                clear hb ho0 ho1
                refine hK.out _ _ ⟨cz0_ BK927, cz1_ BK927⟩ (fun hHeld => ?_)
                clear hK K
                refine no_ (some 21) ?_
                exact norm_ (by simp only [putAll, Act.put, List.setIfInBounds_toArray, List.set_cons_zero, List.set_cons_succ]) (hCont (.slice Ao51 t939.length co51, v943, v946, gb948) _ ⟨hHeld, (rw_ (Kd.R_mono HO941.out (fun _ hk => ⟨hk.1.2, ⟨hk.2, ⟨hk.1.1.1.2, hk.1.1.2⟩⟩⟩))), (rw_ (Kd.R_mono HO944.out (fun _ hk => ⟨hk.2, ⟨hk.1.1.1, ⟨hk.1.1.2, hk.1.2⟩⟩⟩))), (rw_ (Kd.R_mono HO947.out (fun _ hk => ⟨hk.2, ⟨hk.1.1.1, ⟨hk.1.1.2, hk.1.2⟩⟩⟩))), (rw_ (Kd.R_mono HO_939000.out (fun _ hk => ⟨hk.1.1.2, ⟨hk.1.2, ⟨hk.2, hk.1.1.1⟩⟩⟩))), (rw_ (Kd.R_mono HO_939001.out (fun _ hk => ⟨hk.1.1.2, ⟨hk.1.2, ⟨hk.2, hk.1.1.1⟩⟩⟩))), (kk_ BK927), (kk_ BK928), (kk_ BK938), (kk_ BK948), GW948.out, GE948.out, NB927_948.out, NB948_927.out, NB928_948.out, NB948_928.out, NB938_948.out, NB948_938.out, hB_⟩)
            · skip
              refine box_step ?hg (N := 5) ?hd (cs := #[.slice none 0 0, .slice none 0 0]) (t := 33) ?hr ?_; (case hd => rfl); (case hg => rfl); (case hr => first | (go_simp; done) | (go_simp; rfl))
              intro gb948 hg w49 hbox hb
              replace HO_939000 := rb_ HO_939000 hb
              replace HO_939001 := rb_ HO_939001 hb
              have BK948 := Aside0.mk hbox
              have GW948 := gw_ w hg
              have GE948 := GW948
              replace HB := b1_ hb
              have NB927_948 := gN_ BK927 hg
              have NB948_927 := gP_ BK927 hg
              replace BK927 := bb_ BK927 hb
              have NB928_948 := gN_ BK928 hg
              have NB948_928 := gP_ BK928 hg
              replace BK928 := bb_ BK928 hb
              have NB938_948 := gN_ BK938 hg
              have NB948_938 := gP_ BK938 hg
              replace BK938 := bb_ BK938 hb
              clear hb hbox hg
              refine hK.out _ _ ⟨cz0_ BK927, cz1_ BK927⟩ (fun hHeld => ?_)
              clear hK K
              refine no_ (some 5) ?_
              refine one_ (i := 3) (N := some 20) (bl_ 7 47) rfl rfl (by kernel_rfl) (by decide) (fun K hK => ?_)
              refine gO_ Try.func130 #[.agg #[.slice A0_0 l0_0.length c0_0, .slice A0_1 l0_1.length c0_1], .int .i64 x4_1] (by rfl) rfl rfl qa_ ?_
              with_reducible refine (spec_l03Names.calls k1 _ _ l0_0 _ _ l0_1 x4_1 t939 _ (cb_ HR0_0) HC0_0.out (cb_ HR0_1) HC0_1.out A17.out).mono ?_
              rintro e w50 ⟨v940, rfl, ho0, hb⟩
              refine ⟨_, rfl, ?_⟩
              have HO941 := Aside0.mk (Kd.R_lower (Kd.R_new' (Kd.R_new' ho0 (Kd.R_lt (rr_ HO_939000))) (Kd.R_lt (rr_ HO_939001))) (below_size hB_))
              replace HO_939000 := Aside0.mk (Kd.R_elder' (rr_ HO_939000) (Kd.R_base ho0) hb)
              replace HO_939001 := Aside0.mk (Kd.R_elder' (rr_ HO_939001) (Kd.R_base ho0) hb)
              replace BK927 := bb_ BK927 hb
              replace BK928 := bb_ BK928 hb
              replace BK938 := bb_ BK938 hb
              replace BK948 := bb_ BK948 hb
              replace HB := b1_ hb
              clear hb ho0
              obtain ⟨Ao51, co51, eo51⟩ := Kd.R_slice HO941.out
              (first | subst eo51 | (injection eo51 with f1_ f2_ f3_; have f4_ := f1_.symm; have f5_ := f3_.symm; clear f1_ f2_ f3_; subst f4_; subst f5_))
              refine hK.out _ _ ⟨cz0_ BK927, cz1_ BK927⟩ (fun hHeld => ?_)
              clear hK K
              refine no_ (some 20) ?_
              refine one_ (i := 4) (N := some 21) (bl_ 7 63) rfl rfl (by kernel_rfl) (by decide) (fun K hK => ?_)
              refine gO_ Try.func129 #[.agg #[.slice A0_0 l0_0.length c0_0, .slice A0_1 l0_1.length c0_1], .slice Ao51 t939.length co51] (by rfl) rfl rfl qa_ ?_
              with_reducible refine (spec_l03Rename.calls k1 _ _ l0_0 _ _ l0_1 _ _ t939 t942 t945 _ (cb_ HR0_0) HC0_0.out (cb_ HR0_1) HC0_1.out (cr_ HO941) ((Kd.R_reads' HO941.out).2.1) A18.out).mono ?_
              rintro e w52 ⟨v943, v946, rfl, ho0, ho1, hb⟩
              refine ⟨_, rfl, ?_⟩
              have HO944 := Aside0.mk (Kd.R_lower (Kd.R_new' (Kd.R_new' (Kd.R_new' ho0 (Kd.R_lt (rr_ HO_939000))) (Kd.R_lt (rr_ HO_939001))) (Kd.R_lt (rr_ HO941))) (below_size hB_))
              have HO947 := Aside0.mk (Kd.R_lower (Kd.R_new' (Kd.R_new' (Kd.R_new' ho1 (Kd.R_lt (rr_ HO_939000))) (Kd.R_lt (rr_ HO_939001))) (Kd.R_lt (rr_ HO941))) (below_size hB_))
              replace HO_939000 := Aside0.mk (Kd.R_mono (Kd.R_told (Kd.R_told (Kd.R_old (rr_ HO_939000) hb) (Kd.R_base ho0)) (Kd.R_base ho1)) (fun _ h_ => h_.1))
              replace HO_939001 := Aside0.mk (Kd.R_mono (Kd.R_told (Kd.R_told (Kd.R_old (rr_ HO_939001) hb) (Kd.R_base ho0)) (Kd.R_base ho1)) (fun _ h_ => h_.1))
              replace HO941 := Aside0.mk (Kd.R_mono (Kd.R_told (Kd.R_told (Kd.R_old (rr_ HO941) hb) (Kd.R_base ho0)) (Kd.R_base ho1)) (fun _ h_ => h_.1))
              replace BK927 := bb_ BK927 hb
              replace BK928 := bb_ BK928 hb
              replace BK938 := bb_ BK938 hb
              replace BK948 := bb_ BK948 hb
              replace HB := b1_ hb
              clear hb ho0 ho1
              refine hK.out _ _ ⟨cz0_ BK927, cz1_ BK927⟩ (fun hHeld => ?_)
              clear hK K
              refine no_ (some 21) ?_
              exact norm_ (by simp only [putAll, Act.put, List.setIfInBounds_toArray, List.set_cons_zero, List.set_cons_succ]) (hCont (.slice Ao51 t939.length co51, v943, v946, gb948) _ ⟨hHeld, (rw_ (Kd.R_mono HO941.out (fun _ hk => ⟨hk.1.2, ⟨hk.2, ⟨hk.1.1.1.2, hk.1.1.2⟩⟩⟩))), (rw_ (Kd.R_mono HO944.out (fun _ hk => ⟨hk.2, ⟨hk.1.1.1, ⟨hk.1.1.2, hk.1.2⟩⟩⟩))), (rw_ (Kd.R_mono HO947.out (fun _ hk => ⟨hk.2, ⟨hk.1.1.1, ⟨hk.1.1.2, hk.1.2⟩⟩⟩))), (rw_ (Kd.R_mono HO_939000.out (fun _ hk => ⟨hk.1.1.2, ⟨hk.1.2, ⟨hk.2, hk.1.1.1⟩⟩⟩))), (rw_ (Kd.R_mono HO_939001.out (fun _ hk => ⟨hk.1.1.2, ⟨hk.1.2, ⟨hk.2, hk.1.1.1⟩⟩⟩))), (kk_ BK927), (kk_ BK928), (kk_ BK938), (kk_ BK948), GW948.out, GE948.out, NB927_948.out, NB948_927.out, NB928_948.out, NB948_928.out, NB938_948.out, NB948_938.out, hB_⟩)
          rintro ⟨v940, v943, v946, gb948⟩ w53 ⟨hS_, h0_, h1_, h2_, h3_, h4_, h5_, h6_, h7_, h8_, h9_, h10_, h11_, h12_, h13_, h14_, h15_, h16_, h17_⟩
          have n0_ : Aside0 (Kd.R (Kd.int .i64) 3 w53 w.heap.size (fun k_ => some k_ ≠ (v943 : Value).ownBlock ∧ some k_ ≠ (v946 : Value).ownBlock ∧ some k_ ≠ (u939000 : Value).ownBlock ∧ some k_ ≠ (u939001 : Value).ownBlock) v940 t939) := ⟨h0_⟩
          have n1_ : Aside0 (Kd.R (Kd.int .i64) 3 w53 w.heap.size (fun k_ => some k_ ≠ (v940 : Value).ownBlock ∧ some k_ ≠ (v946 : Value).ownBlock ∧ some k_ ≠ (u939000 : Value).ownBlock ∧ some k_ ≠ (u939001 : Value).ownBlock) v943 t942) := ⟨h1_⟩
          have n2_ : Aside0 (Kd.R (Kd.int .i64) 3 w53 w.heap.size (fun k_ => some k_ ≠ (v940 : Value).ownBlock ∧ some k_ ≠ (v943 : Value).ownBlock ∧ some k_ ≠ (u939000 : Value).ownBlock ∧ some k_ ≠ (u939001 : Value).ownBlock) v946 t945) := ⟨h2_⟩
          have n3_ : Aside0 (Kd.R (Kd.int .i64) 3 w53 w.heap.size (fun k_ => some k_ ≠ (v940 : Value).ownBlock ∧ some k_ ≠ (v943 : Value).ownBlock ∧ some k_ ≠ (v946 : Value).ownBlock ∧ some k_ ≠ (u939001 : Value).ownBlock) u939000 x939000_1) := ⟨h3_⟩
          have n4_ : Aside0 (Kd.R (Kd.int .i64) 3 w53 w.heap.size (fun k_ => some k_ ≠ (v940 : Value).ownBlock ∧ some k_ ≠ (v943 : Value).ownBlock ∧ some k_ ≠ (v946 : Value).ownBlock ∧ some k_ ≠ (u939000 : Value).ownBlock) u939001 x939001_1) := ⟨h4_⟩
          have n5_ : Aside0 (w53.heap[gb927]? = some (.cells #[.slice A0_0 l0_0.length c0_0, .slice A0_1 l0_1.length c0_1] 33 (0, 0))) := ⟨h5_⟩
          have n6_ : Aside0 (w53.heap[gb928]? = some (.cells #[.slice none 0 0, .slice none 0 0] 33 (0, 0))) := ⟨h6_⟩
          have n7_ : Aside0 (w53.heap[gb938]? = some (.cells #[u939000, u939001] 33 (0, 0))) := ⟨h7_⟩
          have n8_ : Aside0 (w53.heap[gb948]? = some (.cells #[.slice none 0 0, .slice none 0 0] 33 (0, 0))) := ⟨h8_⟩
          have n9_ : Aside0 (w.heap.size ≤ gb948) := ⟨h9_⟩
          have n10_ : Aside0 (w.heap.size ≤ gb948) := ⟨h10_⟩
          have n11_ : Aside0 (gb927 ≠ gb948) := ⟨h11_⟩
          have n12_ : Aside0 (gb948 ≠ gb927) := ⟨h12_⟩
          have n13_ : Aside0 (gb928 ≠ gb948) := ⟨h13_⟩
          have n14_ : Aside0 (gb948 ≠ gb928) := ⟨h14_⟩
          have n15_ : Aside0 (gb938 ≠ gb948) := ⟨h15_⟩
          have n16_ : Aside0 (gb948 ≠ gb938) := ⟨h16_⟩
          have n17_ : Aside0 (Below w.heap.size w w53) := ⟨h17_⟩
          clear HO_939000
          clear HO_939001
          clear BK927
          clear BK928
          clear BK938
          clear HB
          clear h0_ h1_ h2_ h3_ h4_ h5_ h6_ h7_ h8_ h9_ h10_ h11_ h12_ h13_ h14_ h15_ h16_ h17_
          have HO941 := n0_
          have HO944 := n1_
          have HO947 := n2_
          have HO_939000 := n3_
          have HO_939001 := n4_
          have BK927 := n5_
          have BK928 := n6_
          have BK938 := n7_
          have BK948 := n8_
          have GW948 := n9_
          have GE948 := n10_
          have NB927_948 := n11_
          have NB948_927 := n12_
          have NB928_948 := n13_
          have NB948_928 := n14_
          have NB938_948 := n15_
          have NB948_938 := n16_
          have HB := n17_
          clear n0_ n1_ n2_ n3_ n4_ n5_ n6_ n7_ n8_ n9_ n10_ n11_ n12_ n13_ n14_ n15_ n16_ n17_
          have hHeld : w53.cell? ⟨gb927, 0, none⟩ = some (.slice A0_0 l0_0.length c0_0) ∧ w53.cell? ⟨gb927, 1, none⟩ = some (.slice A0_1 l0_1.length c0_1) := hS_
          obtain ⟨Ao54, co54, eo54⟩ := Kd.R_slice HO944.out
          (first | subst eo54 | (injection eo54 with f1_ f2_ f3_; have f4_ := f1_.symm; have f5_ := f3_.symm; clear f1_ f2_ f3_; subst f4_; subst f5_))
          obtain ⟨Ao56, co56, eo56⟩ := Kd.R_slice HO947.out
          (first | subst eo56 | (injection eo56 with f1_ f2_ f3_; have f4_ := f1_.symm; have f5_ := f3_.symm; clear f1_ f2_ f3_; subst f4_; subst f5_))
          refine norm_ (a' := ?_) ?_ ?_
          rotate_left
          · simp only [putAll, Act.put, List.setIfInBounds_toArray, List.set_cons_zero, List.set_cons_succ]
            rfl
          refine one_ (i := 6) (N := none) (bl_ 7 127) rfl rfl (by kernel_rfl) (by decide) (fun K hK => ?_)
          have hs55 : w53.cell? ⟨gb948, 0, none⟩ = some (.slice none 0 0) := cz0_ BK948
          have hfs55 := blk_frozen BK948.out 0
          have hns55_0 := NB927_948.out
          have hns55_1 := NB928_948.out
          have hns55_2 := NB938_948.out
          have hms55_0 := NB948_927.out
          have hms55_1 := NB948_928.out
          have hms55_2 := NB948_938.out
          have hs57 : w53.cell? ⟨gb948, 1, none⟩ = some (.slice none 0 0) := cz1_ BK948
          have hfs57 := blk_frozen BK948.out 1
          have hns57_0 := NB927_948.out
          have hns57_1 := NB928_948.out
          have hns57_2 := NB938_948.out
          have hms57_0 := NB948_927.out
          have hms57_1 := NB948_928.out
          have hms57_2 := NB948_938.out
          refine skip_ (w1 := ?_) (by rfl) rfl ?_ ?_
          rotate_left
          · go_simp
            rfl
          refine hK.out _ _ ⟨((cell_far (p := ⟨gb948, _, none⟩) NB927_948.out _).trans (((cell_far (p := ⟨gb948, _, none⟩) NB927_948.out _).trans (hHeld.1)))), ((cell_far (p := ⟨gb948, _, none⟩) NB927_948.out _).trans (((cell_far (p := ⟨gb948, _, none⟩) NB927_948.out _).trans (hHeld.2))))⟩ (fun hHeld => ?_)
          clear hK K
          refine done_ (by kernel_rfl) ?_
          have hnb58 := NB948_927.out
          have hnc58 := NB927_948.out
          have hnb59 := NB948_928.out
          have hnc59 := NB928_948.out
          have hnb60 := NB948_938.out
          have hnc60 := NB938_948.out
          obtain ⟨hcz61_0, hcz61_1, hfz61_0, hfz61_1⟩ := c2_ BK948
          have hnb62 := NB938_928.out
          have hnc62 := NB928_938.out
          obtain ⟨hcz63_0, hcz63_1, hfz63_0, hfz63_1⟩ := c2_ BK938
          obtain ⟨Ao64, co64, eo64⟩ := Kd.R_slice HO_939000.out
          subst eo64
          obtain ⟨Ao65, co65, eo65⟩ := Kd.R_slice HO_939001.out
          subst eo65
          try go_wp2_with (first | ((with_reducible refine gate_callee (f := 128) rfl ?_); refine gL_ (some 24) Try.func128 #[.agg #[.slice Ao54 t942.length co54, .slice Ao56 t945.length co56], .agg #[.slice Ao64 x939000_1.length co64, .slice Ao65 x939001_1.length co65]] rfl qa_ ?_; (with_reducible refine (spec_l03Before.calls k1 _ _ t942 _ _ t945 _ _ x939000_1 _ _ x939001_1 false _ ?side1 ?side2 ?side3 ?side4 ?side5 ?side6 ?side7 ?side8 A19.out).mono ?_); (case side1 => refine (Kd.R_reads' (e := 3) (base := w.heap.size) (ok := fun k_ => (some k_ ≠ (v940 : Value).ownBlock ∧ (some k_ ≠ (.slice Ao56 t945.length co56 : Value).ownBlock ∧ (some k_ ≠ (.slice Ao64 x939000_1.length co64 : Value).ownBlock ∧ some k_ ≠ (.slice Ao65 x939001_1.length co65 : Value).ownBlock)))) (n := t942.length) (c := co54) ?_).2.2; exact (rw_ (fa_ HO944 BK948))); (case side2 => exact (Kd.R_reads' HO944.out).2.1); (case side3 => refine (Kd.R_reads' (e := 3) (base := w.heap.size) (ok := fun k_ => (some k_ ≠ (v940 : Value).ownBlock ∧ (some k_ ≠ (.slice Ao54 t942.length co54 : Value).ownBlock ∧ (some k_ ≠ (.slice Ao64 x939000_1.length co64 : Value).ownBlock ∧ some k_ ≠ (.slice Ao65 x939001_1.length co65 : Value).ownBlock)))) (n := t945.length) (c := co56) ?_).2.2; exact (rw_ (fa_ HO947 BK948))); (case side4 => exact (Kd.R_reads' HO947.out).2.1); (case side5 => refine (Kd.R_reads' (e := 3) (base := w.heap.size) (ok := fun k_ => (some k_ ≠ (v940 : Value).ownBlock ∧ (some k_ ≠ (.slice Ao54 t942.length co54 : Value).ownBlock ∧ (some k_ ≠ (.slice Ao56 t945.length co56 : Value).ownBlock ∧ some k_ ≠ (.slice Ao65 x939001_1.length co65 : Value).ownBlock)))) (n := x939000_1.length) (c := co64) ?_).2.2; exact (rw_ (fa_ HO_939000 BK948))); (case side6 => exact (Kd.R_reads' HO_939000.out).2.1); (case side7 => refine (Kd.R_reads' (e := 3) (base := w.heap.size) (ok := fun k_ => (some k_ ≠ (v940 : Value).ownBlock ∧ (some k_ ≠ (.slice Ao54 t942.length co54 : Value).ownBlock ∧ (some k_ ≠ (.slice Ao56 t945.length co56 : Value).ownBlock ∧ some k_ ≠ (.slice Ao64 x939000_1.length co64 : Value).ownBlock)))) (n := x939001_1.length) (c := co65) ?_).2.2; exact (rw_ (fa_ HO_939001 BK948))); (case side8 => exact (Kd.R_reads' HO_939001.out).2.1); rintro e w66 ⟨rfl, hb⟩; refine ⟨_, rfl, ?_⟩; replace HO_939000 := Aside0.mk (Kd.R_below (rw_ (fa_ HO_939000 BK948)) hb); replace HO_939001 := Aside0.mk (Kd.R_below (rw_ (fa_ HO_939001 BK948)) hb); replace HO941 := Aside0.mk (Kd.R_below (rw_ (fa_ HO941 BK948)) hb); replace HO944 := Aside0.mk (Kd.R_below (rw_ (fa_ HO944 BK948)) hb); replace HO947 := Aside0.mk (Kd.R_below (rw_ (fa_ HO947 BK948)) hb); replace BK927 := Aside0.mk (blk_below (g := gb927) (o := .cells #[.slice A0_0 l0_0.length c0_0, .slice A0_1 l0_1.length c0_1] 33 (0, 0)) (by (with_reducible repeat (first | refine blk_drewN ?_ _ | refine blk_drew ?_ | refine blk_alloc ?_ _)); refine blk_far ?_ NB927_948.out _; (with_reducible repeat (first | refine blk_drewN ?_ _ | refine blk_drew ?_ | refine blk_alloc ?_ _)); refine blk_far ?_ NB927_948.out _; (with_reducible repeat (first | refine blk_drewN ?_ _ | refine blk_drew ?_ | refine blk_alloc ?_ _)); exact BK927.out) hb); replace BK928 := Aside0.mk (blk_below (g := gb928) (o := .cells #[.slice none 0 0, .slice none 0 0] 33 (0, 0)) (by (with_reducible repeat (first | refine blk_drewN ?_ _ | refine blk_drew ?_ | refine blk_alloc ?_ _)); refine blk_far ?_ NB928_948.out _; (with_reducible repeat (first | refine blk_drewN ?_ _ | refine blk_drew ?_ | refine blk_alloc ?_ _)); refine blk_far ?_ NB928_948.out _; (with_reducible repeat (first | refine blk_drewN ?_ _ | refine blk_drew ?_ | refine blk_alloc ?_ _)); exact BK928.out) hb); replace BK938 := Aside0.mk (blk_below (g := gb938) (o := .cells #[.slice Ao64 x939000_1.length co64, .slice Ao65 x939001_1.length co65] 33 (0, 0)) (by (with_reducible repeat (first | refine blk_drewN ?_ _ | refine blk_drew ?_ | refine blk_alloc ?_ _)); refine blk_far ?_ NB938_948.out _; (with_reducible repeat (first | refine blk_drewN ?_ _ | refine blk_drew ?_ | refine blk_alloc ?_ _)); refine blk_far ?_ NB938_948.out _; (with_reducible repeat (first | refine blk_drewN ?_ _ | refine blk_drew ?_ | refine blk_alloc ?_ _)); exact BK938.out) hb); replace BK948 := Aside0.mk (blk_below (g := gb948) (o := .cells #[.slice Ao54 t942.length co54, .slice Ao56 t945.length co56] 33 (0, 0)) qp_ hb); replace HB := b1_ hb; clear hb))
          go_roundg k1
          case measure => have := HK1.out; omega
          case rel => exact ⟨(wrap64 (x4_1 + 1)), (x939000_1), (x939001_1), (.slice Ao64 x939000_1.length co64), (.slice Ao65 x939001_1.length co65), qc_, H', ⟨by have := HK1.out; omega⟩, ⟨(rw_ (Kd.R_mono HO_939000.out (fun _ hk => hk.2.2.2)))⟩, ⟨(rw_ (Kd.R_mono HO_939001.out (fun _ hk => hk.2.2.2)))⟩, ⟨(kk_ BK927)⟩, ⟨(kk_ BK928)⟩, ⟨(kk_ BK938)⟩, ⟨hB_⟩⟩
      · rw [if_neg c16] at H
        have c16b0 := decide_eq_false c16
        clear c16
        simp only [Option.some.injEq, Prod.mk.injEq] at H
        obtain ⟨rfl, rfl⟩ := H
        have hnb67 := NB927_928.out
        have hnc67 := NB928_927.out
        have hnb68 := NB927_938.out
        have hnc68 := NB938_927.out
        obtain ⟨hcz69_0, hcz69_1, hfz69_0, hfz69_1⟩ := c2_ BK927
        have hnb70 := NB938_928.out
        have hnc70 := NB928_938.out
        obtain ⟨hcz71_0, hcz71_1, hfz71_0, hfz71_1⟩ := c2_ BK938
        obtain ⟨Ao72, co72, eo72⟩ := Kd.R_slice HO_939000.out
        subst eo72
        obtain ⟨hcz73_0, hcz73_1, hfz73_0, hfz73_1⟩ := c2_ BK928
        obtain ⟨Ao74, co74, eo74⟩ := Kd.R_slice HO_939001.out
        subst eo74
        go_wp2
        refine bodyPost_ret (results_cell_row rfl _ _ gb928 33 #[.slice Ao72 x939000_1.length co72, .slice Ao74 x939001_1.length co74] (0, 0) _ rfl qp_ Try.underlying33 rfl (by kernel_rfl)) rfl ?_
        exact ⟨_, _, qb_, (rw_ (fa_ HO_939000 BK928)), (rw_ (fa_ HO_939001 BK928)), hB_⟩
end Go.Proofs.Ytoijcallajegfaa.A
end
section
namespace Go.Proofs.Ytoijcallajegfaa.A
open Go.RowKit Go.Proofs.YtoijcallajegfaaW.PrintWords Go.Proofs.YtoijcallajegfaaW.PrintLast Go.Proofs.YtoijcallajegfaaW.PrintMore
attribute [local go_sem] max2_int min2_int max_two min_two max_three min_three max_four min_four
set_option linter.unusedVariables false
set_option linter.unusedSimpArgs false
def spec_SameSurface.f (k : Nat) (l0_0 : List Int) (l0_1 : List Int) (l1_0 : List Int) (l1_1 : List Int) : Option (Bool) := (spec_SameList.f k l0_0 l1_0).bind fun t952 => (if t952 = true then ((spec_SameList.f k l0_1 l1_1).bind fun t953 => (some t953)) else (some false))
theorem spec_SameSurface.mono : ∀ a0 a1 a2 a3 k, LeO (spec_SameSurface.f k a0 a1 a2 a3) (spec_SameSurface.f (k + 1) a0 a1 a2 a3) := by
  intro a0 a1 a2 a3 k
  unfold spec_SameSurface.f
  repeat' first|exact spec_SameList.mono _ _ _|exact lo_|refine LeO.ite ?_ ?_|refine LeO.bind ?_ (fun _ => ?_)
set_option maxHeartbeats 8000000 in
set_option maxRecDepth 100000 in
theorem spec_SameSurface.calls (k : Nat) (A0_0 : Option Addr) (c0_0 : Nat) (l0_0 : List Int) (A0_1 : Option Addr) (c0_1 : Nat) (l0_1 : List Int) (A1_0 : Option Addr) (c1_0 : Nat) (l1_0 : List Int) (A1_1 : Option Addr) (c1_1 : Nat) (l1_1 : List Int) (r : Bool) (w : World) (hr0_0 : Kd.C (Kd.int .i64) w A0_0 l0_0.length l0_0) (hc0_0 : l0_0.length ≤ c0_0) (hr0_1 : Kd.C (Kd.int .i64) w A0_1 l0_1.length l0_1) (hc0_1 : l0_1.length ≤ c0_1) (hr1_0 : Kd.C (Kd.int .i64) w A1_0 l1_0.length l1_0) (hc1_0 : l1_0.length ≤ c1_0) (hr1_1 : Kd.C (Kd.int .i64) w A1_1 l1_1.length l1_1) (hc1_1 : l1_1.length ≤ c1_1) (h : spec_SameSurface.f k l0_0 l0_1 l1_0 l1_1 = some r) :
    Calls Try.prog 125 #[.agg #[.slice A0_0 l0_0.length c0_0, .slice A0_1 l0_1.length c0_1], .agg #[.slice A1_0 l1_0.length c1_0, .slice A1_1 l1_1.length c1_1]] w fun e w' => e = .returned (.bool r) ∧ Below w.heap.size w w' := by
  have hu33 := Try.underlying33
  have HR0_0 := Aside0.mk hr0_0
  have HC0_0 := Aside0.mk hc0_0
  clear hr0_0 hc0_0
  have HR0_1 := Aside0.mk hr0_1
  have HC0_1 := Aside0.mk hc0_1
  clear hr0_1 hc0_1
  have HR1_0 := Aside0.mk hr1_0
  have HC1_0 := Aside0.mk hc1_0
  clear hr1_0 hc1_0
  have HR1_1 := Aside0.mk hr1_1
  have HC1_1 := Aside0.mk hc1_1
  clear hr1_1 hc1_1
  have HB := Aside0.mk (Below.refl w.heap.size w)
  have H := h
  unfold spec_SameSurface.f at H
  clear h
  obtain ⟨t952, A3, H⟩ := bi_ H
  by_cases c4 : t952 = true
  · subst c4
    rw [if_pos rfl] at H
    obtain ⟨t953, A5, H⟩ := bi_ H
    obtain rfl := Option.some.inj H
    go_enter Try.func125, Try.ntmps125
    go_wp2_with (first | ((with_reducible refine gate_dst (N := 2) rfl ?_); refine bx_ 2 #[.slice A0_0 l0_0.length c0_0, .slice A0_1 l0_1.length c0_1] 33 ?_; intro gb950 hg w6 hbox hb; have BK950 := Aside0.mk hbox; have GW950 := gw_ w hg; have GE950 := GW950; replace HB := b1_ hb; clear hb hbox hg) | ((with_reducible refine gate_dst (N := 3) rfl ?_); refine bx_ 3 #[.slice A1_0 l1_0.length c1_0, .slice A1_1 l1_1.length c1_1] 33 ?_; intro gb951 hg w7 hbox hb; have BK951 := Aside0.mk hbox; have GW951 := gw_ w hg; have GE951 := GW951; replace HB := b1_ hb; have NB950_951 := gN_ BK950 hg; have NB951_950 := gP_ BK950 hg; replace BK950 := bb_ BK950 hb; clear hb hbox hg; have hnb8 := NB950_951.out; have hnc8 := NB951_950.out; obtain ⟨hcz9_0, hcz9_1, hfz9_0, hfz9_1⟩ := c2_ BK950; obtain ⟨hcz10_0, hcz10_1, hfz10_0, hfz10_1⟩ := c2_ BK951) | ((with_reducible refine gate_callee (f := 134) rfl ?_); refine gL_ (some 9) Try.func134 #[.slice A0_0 l0_0.length c0_0, .slice A1_0 l1_0.length c1_0] rfl qa_ ?_; (with_reducible refine (spec_SameList.calls k _ _ l0_0 _ _ l1_0 true _ (cb_ HR0_0) HC0_0.out (cb_ HR1_0) HC1_0.out A3.out).mono ?_); rintro e w' ⟨rfl, ⟨nd, rfl⟩⟩; refine ⟨_, rfl, ?_⟩) | (go_at_call 134; (with_reducible refine (spec_SameList.calls k _ _ l0_1 _ _ l1_1 t953 _ (cw_ (Kd.C_below HR0_1.out hB_)) HC0_1.out (cw_ (Kd.C_below HR1_1.out hB_)) HC1_1.out A5.out).mono ?_); rintro e w' ⟨rfl, ⟨nd, rfl⟩⟩))
    go_ret
    exact ⟨qb_, hB_⟩
  · replace c4 := Bool.eq_false_iff.mpr c4
    subst c4
    have H1 : (some false) = some r := by rw [if_neg (show ¬ (false = true) by decide)] at H; exact H
    clear H
    have H := H1
    clear H1
    obtain rfl := Option.some.inj H
    go_enter Try.func125, Try.ntmps125
    go_wp2_with (first | ((with_reducible refine gate_dst (N := 2) rfl ?_); refine bx_ 2 #[.slice A0_0 l0_0.length c0_0, .slice A0_1 l0_1.length c0_1] 33 ?_; intro gb950 hg w11 hbox hb; have BK950 := Aside0.mk hbox; have GW950 := gw_ w hg; have GE950 := GW950; replace HB := b1_ hb; clear hb hbox hg) | ((with_reducible refine gate_dst (N := 3) rfl ?_); refine bx_ 3 #[.slice A1_0 l1_0.length c1_0, .slice A1_1 l1_1.length c1_1] 33 ?_; intro gb951 hg w12 hbox hb; have BK951 := Aside0.mk hbox; have GW951 := gw_ w hg; have GE951 := GW951; replace HB := b1_ hb; have NB950_951 := gN_ BK950 hg; have NB951_950 := gP_ BK950 hg; replace BK950 := bb_ BK950 hb; clear hb hbox hg; have hnb13 := NB950_951.out; have hnc13 := NB951_950.out; obtain ⟨hcz14_0, hcz14_1, hfz14_0, hfz14_1⟩ := c2_ BK950; obtain ⟨hcz15_0, hcz15_1, hfz15_0, hfz15_1⟩ := c2_ BK951) | ((with_reducible refine gate_callee (f := 134) rfl ?_); refine gL_ (some 9) Try.func134 #[.slice A0_0 l0_0.length c0_0, .slice A1_0 l1_0.length c1_0] rfl qa_ ?_; (with_reducible refine (spec_SameList.calls k _ _ l0_0 _ _ l1_0 false _ (cb_ HR0_0) HC0_0.out (cb_ HR1_0) HC1_0.out A3.out).mono ?_); rintro e w' ⟨rfl, ⟨nd, rfl⟩⟩; refine ⟨_, rfl, ?_⟩))
    go_ret
    exact ⟨qb_, hB_⟩
end Go.Proofs.Ytoijcallajegfaa.A
end
section
namespace Go.Proofs.Ytoijcallajegfaa.A
open Go.RowKit Go.Proofs.YtoijcallajegfaaW.PrintWords Go.Proofs.YtoijcallajegfaaW.PrintLast Go.Proofs.YtoijcallajegfaaW.PrintMore
attribute [local go_sem] max2_int min2_int max_two min_two max_three min_three max_four min_four
set_option linter.unusedVariables false
set_option linter.unusedSimpArgs false
def spec_AreIsomorphic.f (k : Nat) (l0_0 : List Int) (l0_1 : List Int) (l1_0 : List Int) (l1_1 : List Int) : Option (Bool) := (spec_SurfaceOk.f k l0_0 l0_1).bind fun t956 => (if t956 = true then ((spec_SurfaceOk.f k l1_0 l1_1).bind fun t957 => (if t957 = true then ((spec_l03Canon.f k l0_0 l0_1).bind fun bt958 => ((spec_l03Canon.f k l1_0 l1_1).bind fun bt964 => ((spec_SameSurface.f k bt958.1 bt958.2 bt964.1 bt964.2).bind fun t970 => (some t970)))) else (some false))) else (some false))
theorem spec_AreIsomorphic.mono : ∀ a0 a1 a2 a3 k, LeO (spec_AreIsomorphic.f k a0 a1 a2 a3) (spec_AreIsomorphic.f (k + 1) a0 a1 a2 a3) := by
  intro a0 a1 a2 a3 k
  unfold spec_AreIsomorphic.f
  repeat' first|exact spec_SameSurface.mono _ _ _ _ _|exact spec_SurfaceOk.mono _ _ _|exact spec_l03Canon.mono _ _ _|exact lo_|refine LeO.ite ?_ ?_|refine LeO.bind ?_ (fun _ => ?_)
def spec_AreIsomorphic.T1 : Bool × List (List Nat × List Nat) := (true, [([], []), ([0], [0]), ([1, 1], [1]), ([2], [2]), ([3, 2, 2], [2, 3]), ([2, 4], [2, 4]), ([5, 4], [5]), ([6], [6]), ([7, 6, 6], [6, 7]), ([6], [6]), ([9, 8, 6], [6, 9]), ([8, 10, 10, 6], [6, 8, 10]), ([6, 11], [6, 11]), ([12, 11, 0, 1, 2, 3, 4, 5, 6, 7, 8, 9, 10, 11, 12], [12])])
def spec_AreIsomorphic.B1 : List Nat := [0, 1, 3, 7, 15, 31, 63, 127, 255, 127, 1023, 2047, 4095, 8191]
theorem spec_AreIsomorphic.tab1 : rtab .any (opsOf Try.f79 1) = spec_AreIsomorphic.T1 := by kernel_rfl
theorem spec_AreIsomorphic.bits1 : waitsOk spec_AreIsomorphic.T1.2 spec_AreIsomorphic.B1 = true := by kernel_rfl
set_option maxHeartbeats 8000000 in
set_option maxRecDepth 100000 in
theorem spec_AreIsomorphic.calls (k : Nat) (A0_0 : Option Addr) (c0_0 : Nat) (l0_0 : List Int) (A0_1 : Option Addr) (c0_1 : Nat) (l0_1 : List Int) (A1_0 : Option Addr) (c1_0 : Nat) (l1_0 : List Int) (A1_1 : Option Addr) (c1_1 : Nat) (l1_1 : List Int) (r : Bool) (w : World) (hr0_0 : Kd.C (Kd.int .i64) w A0_0 l0_0.length l0_0) (hc0_0 : l0_0.length ≤ c0_0) (hr0_1 : Kd.C (Kd.int .i64) w A0_1 l0_1.length l0_1) (hc0_1 : l0_1.length ≤ c0_1) (hr1_0 : Kd.C (Kd.int .i64) w A1_0 l1_0.length l1_0) (hc1_0 : l1_0.length ≤ c1_0) (hr1_1 : Kd.C (Kd.int .i64) w A1_1 l1_1.length l1_1) (hc1_1 : l1_1.length ≤ c1_1) (h : spec_AreIsomorphic.f k l0_0 l0_1 l1_0 l1_1 = some r) :
    Calls Try.prog 79 #[.agg #[.slice A0_0 l0_0.length c0_0, .slice A0_1 l0_1.length c0_1], .agg #[.slice A1_0 l1_0.length c1_0, .slice A1_1 l1_1.length c1_1]] w fun e w' => e = .returned (.bool r) ∧ Below w.heap.size w w' := by
  have hu33 := Try.underlying33
  have HR0_0 := Aside0.mk hr0_0
  have HC0_0 := Aside0.mk hc0_0
  clear hr0_0 hc0_0
  have HR0_1 := Aside0.mk hr0_1
  have HC0_1 := Aside0.mk hc0_1
  clear hr0_1 hc0_1
  have HR1_0 := Aside0.mk hr1_0
  have HC1_0 := Aside0.mk hc1_0
  clear hr1_0 hc1_0
  have HR1_1 := Aside0.mk hr1_1
  have HC1_1 := Aside0.mk hc1_1
  clear hr1_1 hc1_1
  have HB := Aside0.mk (Below.refl w.heap.size w)
  have H := h
  unfold spec_AreIsomorphic.f at H
  clear h
  obtain ⟨t956, A3, H⟩ := bi_ H
  by_cases c4 : t956 = true
  · subst c4
    rw [if_pos rfl] at H
    obtain ⟨t957, A5, H⟩ := bi_ H
    by_cases c6 : t957 = true
    · subst c6
      rw [if_pos rfl] at H
      obtain ⟨⟨t958, t961⟩, A7, H⟩ := bi_ H
      try dsimp only at H
      obtain ⟨⟨t964, t967⟩, A8, H⟩ := bi_ H
      try dsimp only at H
      obtain ⟨t970, A9, H⟩ := bi_ H
      obtain rfl := Option.some.inj H
      go_enter Try.func79, Try.ntmps79
      try go_wp2_with (first | ((with_reducible refine gate_dst (N := 2) rfl ?_); refine bx_ 2 #[.slice A0_0 l0_0.length c0_0, .slice A0_1 l0_1.length c0_1] 33 ?_; intro gb954 hg w10 hbox hb; have BK954 := Aside0.mk hbox; have GW954 := gw_ w hg; have GE954 := GW954; replace HB := b1_ hb; clear hb hbox hg) | ((with_reducible refine gate_dst (N := 3) rfl ?_); refine bx_ 3 #[.slice A1_0 l1_0.length c1_0, .slice A1_1 l1_1.length c1_1] 33 ?_; intro gb955 hg w11 hbox hb; have BK955 := Aside0.mk hbox; have GW955 := gw_ w hg; have GE955 := GW955; replace HB := b1_ hb; have NB954_955 := gN_ BK954 hg; have NB955_954 := gP_ BK954 hg; replace BK954 := bb_ BK954 hb; clear hb hbox hg))
      replace BK954 := Aside0.mk (blk_drew BK954.out)
      replace BK955 := Aside0.mk (blk_drew BK955.out)
      replace HB := Aside0.mk (below_drew1 HB.out)
      refine start_ (n := 14) (S := fun w' => w'.cell? ⟨gb954, 0, none⟩ = some (.slice A0_0 l0_0.length c0_0) ∧ w'.cell? ⟨gb954, 1, none⟩ = some (.slice A0_1 l0_1.length c0_1) ∧ w'.cell? ⟨gb955, 0, none⟩ = some (.slice A1_0 l1_0.length c1_0) ∧ w'.cell? ⟨gb955, 1, none⟩ = some (.slice A1_1 l1_1.length c1_1)) (ds := []) (bl_ 14 0) (by kernel_rfl) rfl (by kernel_rfl) ⟨cz0_ BK954, cz1_ BK954, cz0_ BK955, cz1_ BK955⟩ (fun hHeld => ?_); refine with_tabW spec_AreIsomorphic.tab1 spec_AreIsomorphic.bits1 (fun HT_ HW_ => ?_)
      generalize w11.drew = w12 at BK954 BK955 HB hHeld ⊢
      refine ta_ 0 (some 5) (bl_ 14 1) HT_ HW_ hHeld ?_
      refine on_ 1 (some 6) (bl_ 14 3) HT_ (fun K hK => ?_)
      refine gO_ Try.func85 #[.agg #[.slice A0_0 l0_0.length c0_0, .slice A0_1 l0_1.length c0_1]] (by rfl) rfl rfl qa_ ?_
      with_reducible refine (spec_SurfaceOk.calls k _ _ l0_0 _ _ l0_1 true _ (cb_ HR0_0) HC0_0.out (cb_ HR0_1) HC0_1.out A3.out).mono ?_
      rintro e w13 ⟨rfl, hb⟩
      refine ⟨_, rfl, ?_⟩
      replace BK954 := bb_ BK954 hb
      replace BK955 := bb_ BK955 hb
      replace HB := b1_ hb
      clear hb
      refine hK.out _ _ ⟨cz0_ BK954, cz1_ BK954, cz0_ BK955, cz1_ BK955⟩ (fun hHeld => ?_)
      clear hK K
      refine no_ (some 6) ?_
      refine pu_ 2 (some 7) (bl_ 14 7) HT_ ?_
      refine ta_ 3 (some 8) (bl_ 14 15) HT_ HW_ hHeld ?_
      refine on_ 4 (some 9) (bl_ 14 31) HT_ (fun K hK => ?_)
      refine gO_ Try.func85 #[.agg #[.slice A1_0 l1_0.length c1_0, .slice A1_1 l1_1.length c1_1]] (by rfl) rfl rfl qa_ ?_
      with_reducible refine (spec_SurfaceOk.calls k _ _ l1_0 _ _ l1_1 true _ (cb_ HR1_0) HC1_0.out (cb_ HR1_1) HC1_1.out A5.out).mono ?_
      rintro e w14 ⟨rfl, hb⟩
      refine ⟨_, rfl, ?_⟩
      replace BK954 := bb_ BK954 hb
      replace BK955 := bb_ BK955 hb
      replace HB := b1_ hb
      clear hb
      refine hK.out _ _ ⟨cz0_ BK954, cz1_ BK954, cz0_ BK955, cz1_ BK955⟩ (fun hHeld => ?_)
      clear hK K
      refine no_ (some 9) ?_
      refine pu_ 5 (some 10) (bl_ 14 63) HT_ ?_
      refine pu_ 6 (some 11) (bl_ 14 127) HT_ ?_
      refine ta_ 7 (some 12) (bl_ 14 255) HT_ HW_ hHeld ?_
      refine ta_ 9 (some 14) (bl_ 14 767) HT_ HW_ hHeld ?_
      refine on_ 8 (some 13) (bl_ 14 1023) HT_ (fun K hK => ?_)
      refine gO_ Try.func87 #[.agg #[.slice A0_0 l0_0.length c0_0, .slice A0_1 l0_1.length c0_1]] (by rfl) rfl rfl qa_ ?_
      with_reducible refine (spec_l03Canon.calls k _ _ l0_0 _ _ l0_1 t958 t961 _ (cb_ HR0_0) HC0_0.out (cb_ HR0_1) HC0_1.out A7.out).mono ?_
      rintro e w15 ⟨v959, v962, rfl, ho0, ho1, hb⟩
      refine ⟨_, rfl, ?_⟩
      have HO960 := rl_ w ho0
      have HO963 := rl_ w ho1
      replace BK954 := bb_ BK954 hb
      replace BK955 := bb_ BK955 hb
      replace HB := b1_ hb
      clear hb ho0 ho1
      refine hK.out _ _ ⟨cz0_ BK954, cz1_ BK954, cz0_ BK955, cz1_ BK955⟩ (fun hHeld => ?_)
      clear hK K
      refine no_ (some 13) ?_
      refine on_ 10 (some 15) (bl_ 14 2047) HT_ (fun K hK => ?_)
      refine gO_ Try.func87 #[.agg #[.slice A1_0 l1_0.length c1_0, .slice A1_1 l1_1.length c1_1]] (by rfl) rfl rfl qa_ ?_
      with_reducible refine (spec_l03Canon.calls k _ _ l1_0 _ _ l1_1 t964 t967 _ (cb_ HR1_0) HC1_0.out (cb_ HR1_1) HC1_1.out A8.out).mono ?_
      rintro e w16 ⟨v965, v968, rfl, ho0, ho1, hb⟩
      refine ⟨_, rfl, ?_⟩
      have HO966 := Aside0.mk (Kd.R_lower (Kd.R_new' (Kd.R_new' ho0 (Kd.R_lt (rr_ HO960))) (Kd.R_lt (rr_ HO963))) (below_size hB_))
      have HO969 := Aside0.mk (Kd.R_lower (Kd.R_new' (Kd.R_new' ho1 (Kd.R_lt (rr_ HO960))) (Kd.R_lt (rr_ HO963))) (below_size hB_))
      replace HO960 := Aside0.mk (Kd.R_mono (Kd.R_told (Kd.R_told (Kd.R_old (rr_ HO960) hb) (Kd.R_base ho0)) (Kd.R_base ho1)) (fun _ h_ => h_.1))
      replace HO963 := Aside0.mk (Kd.R_mono (Kd.R_told (Kd.R_told (Kd.R_old (rr_ HO963) hb) (Kd.R_base ho0)) (Kd.R_base ho1)) (fun _ h_ => h_.1))
      replace BK954 := bb_ BK954 hb
      replace BK955 := bb_ BK955 hb
      replace HB := b1_ hb
      clear hb ho0 ho1
      obtain ⟨Ao17, co17, eo17⟩ := Kd.R_slice HO960.out
      (first | subst eo17 | (injection eo17 with f1_ f2_ f3_; have f4_ := f1_.symm; have f5_ := f3_.symm; clear f1_ f2_ f3_; subst f4_; subst f5_))
      obtain ⟨Ao18, co18, eo18⟩ := Kd.R_slice HO963.out
      (first | subst eo18 | (injection eo18 with f1_ f2_ f3_; have f4_ := f1_.symm; have f5_ := f3_.symm; clear f1_ f2_ f3_; subst f4_; subst f5_))
      obtain ⟨Ao19, co19, eo19⟩ := Kd.R_slice HO966.out
      (first | subst eo19 | (injection eo19 with f1_ f2_ f3_; have f4_ := f1_.symm; have f5_ := f3_.symm; clear f1_ f2_ f3_; subst f4_; subst f5_))
      obtain ⟨Ao20, co20, eo20⟩ := Kd.R_slice HO969.out
      (first | subst eo20 | (injection eo20 with f1_ f2_ f3_; have f4_ := f1_.symm; have f5_ := f3_.symm; clear f1_ f2_ f3_; subst f4_; subst f5_))
      refine hK.out _ _ ⟨cz0_ BK954, cz1_ BK954, cz0_ BK955, cz1_ BK955⟩ (fun hHeld => ?_)
      clear hK K
      refine no_ (some 15) ?_
      refine on_ 11 (some 16) (bl_ 14 4095) HT_ (fun K hK => ?_)
      refine gO_ Try.func125 #[.agg #[.slice Ao17 t958.length co17, .slice Ao18 t961.length co18], .agg #[.slice Ao19 t964.length co19, .slice Ao20 t967.length co20]] (by rfl) rfl rfl qa_ ?_
      with_reducible refine (spec_SameSurface.calls k _ _ t958 _ _ t961 _ _ t964 _ _ t967 t970 _ (cr_ HO960) ((Kd.R_reads' HO960.out).2.1) (cr_ HO963) ((Kd.R_reads' HO963.out).2.1) (cr_ HO966) ((Kd.R_reads' HO966.out).2.1) (cr_ HO969) ((Kd.R_reads' HO969.out).2.1) A9.out).mono ?_
      rintro e w21 ⟨rfl, hb⟩
      refine ⟨_, rfl, ?_⟩
      replace HO960 := rb_ HO960 hb
      replace HO963 := rb_ HO963 hb
      replace HO966 := rb_ HO966 hb
      replace HO969 := rb_ HO969 hb
      replace BK954 := bb_ BK954 hb
      replace BK955 := bb_ BK955 hb
      replace HB := b1_ hb
      clear hb
      refine hK.out _ _ ⟨cz0_ BK954, cz1_ BK954, cz0_ BK955, cz1_ BK955⟩ (fun hHeld => ?_)
      clear hK K
      refine no_ (some 16) ?_
      refine pu_ 12 (some 17) (bl_ 14 8191) HT_ ?_
      refine pu_ 13 (some 4) (bl_ 14 16383) HT_ ?_
      refine done_ (done_of HT_.out (by kernel_rfl)) ?_
      try go_wp2
      go_ret
      exact ⟨qb_, hB_⟩
    · replace c6 := Bool.eq_false_iff.mpr c6
      subst c6
      have H1 : (some false) = some r := by rw [if_neg (show ¬ (false = true) by decide)] at H; exact H
      clear H
      have H := H1
      clear H1
      obtain rfl := Option.some.inj H
      go_enter Try.func79, Try.ntmps79
      try go_wp2_with (first | ((with_reducible refine gate_dst (N := 2) rfl ?_); refine bx_ 2 #[.slice A0_0 l0_0.length c0_0, .slice A0_1 l0_1.length c0_1] 33 ?_; intro gb954 hg w22 hbox hb; have BK954 := Aside0.mk hbox; have GW954 := gw_ w hg; have GE954 := GW954; replace HB := b1_ hb; clear hb hbox hg) | ((with_reducible refine gate_dst (N := 3) rfl ?_); refine bx_ 3 #[.slice A1_0 l1_0.length c1_0, .slice A1_1 l1_1.length c1_1] 33 ?_; intro gb955 hg w23 hbox hb; have BK955 := Aside0.mk hbox; have GW955 := gw_ w hg; have GE955 := GW955; replace HB := b1_ hb; have NB954_955 := gN_ BK954 hg; have NB955_954 := gP_ BK954 hg; replace BK954 := bb_ BK954 hb; clear hb hbox hg))
      replace BK954 := Aside0.mk (blk_drew BK954.out)
      replace BK955 := Aside0.mk (blk_drew BK955.out)
      replace HB := Aside0.mk (below_drew1 HB.out)
      refine start_ (n := 14) (S := fun w' => w'.cell? ⟨gb954, 0, none⟩ = some (.slice A0_0 l0_0.length c0_0) ∧ w'.cell? ⟨gb954, 1, none⟩ = some (.slice A0_1 l0_1.length c0_1) ∧ w'.cell? ⟨gb955, 0, none⟩ = some (.slice A1_0 l1_0.length c1_0) ∧ w'.cell? ⟨gb955, 1, none⟩ = some (.slice A1_1 l1_1.length c1_1)) (ds := []) (bl_ 14 0) (by kernel_rfl) rfl (by kernel_rfl) ⟨cz0_ BK954, cz1_ BK954, cz0_ BK955, cz1_ BK955⟩ (fun hHeld => ?_); refine with_tabW spec_AreIsomorphic.tab1 spec_AreIsomorphic.bits1 (fun HT_ HW_ => ?_)
      generalize w23.drew = w24 at BK954 BK955 HB hHeld ⊢
      refine ta_ 0 (some 5) (bl_ 14 1) HT_ HW_ hHeld ?_
      refine on_ 1 (some 6) (bl_ 14 3) HT_ (fun K hK => ?_)
      refine gO_ Try.func85 #[.agg #[.slice A0_0 l0_0.length c0_0, .slice A0_1 l0_1.length c0_1]] (by rfl) rfl rfl qa_ ?_
      with_reducible refine (spec_SurfaceOk.calls k _ _ l0_0 _ _ l0_1 true _ (cb_ HR0_0) HC0_0.out (cb_ HR0_1) HC0_1.out A3.out).mono ?_
      rintro e w25 ⟨rfl, hb⟩
      refine ⟨_, rfl, ?_⟩
      replace BK954 := bb_ BK954 hb
      replace BK955 := bb_ BK955 hb
      replace HB := b1_ hb
      clear hb
      refine hK.out _ _ ⟨cz0_ BK954, cz1_ BK954, cz0_ BK955, cz1_ BK955⟩ (fun hHeld => ?_)
      clear hK K
      refine no_ (some 6) ?_
      refine pu_ 2 (some 7) (bl_ 14 7) HT_ ?_
      refine ta_ 3 (some 8) (bl_ 14 15) HT_ HW_ hHeld ?_
      refine on_ 4 (some 9) (bl_ 14 31) HT_ (fun K hK => ?_)
      refine gO_ Try.func85 #[.agg #[.slice A1_0 l1_0.length c1_0, .slice A1_1 l1_1.length c1_1]] (by rfl) rfl rfl qa_ ?_
      with_reducible refine (spec_SurfaceOk.calls k _ _ l1_0 _ _ l1_1 false _ (cb_ HR1_0) HC1_0.out (cb_ HR1_1) HC1_1.out A5.out).mono ?_
      rintro e w26 ⟨rfl, hb⟩
      refine ⟨_, rfl, ?_⟩
      replace BK954 := bb_ BK954 hb
      replace BK955 := bb_ BK955 hb
      replace HB := b1_ hb
      clear hb
      refine hK.out _ _ ⟨cz0_ BK954, cz1_ BK954, cz0_ BK955, cz1_ BK955⟩ (fun hHeld => ?_)
      clear hK K
      refine no_ (some 9) ?_
      refine pu_ 5 (some 10) (bl_ 14 63) HT_ ?_
      refine pu_ 6 (some 11) (bl_ 14 127) HT_ ?_
      refine pure_ (i := 7) (N := some 12) (v := undef) (a' := ?_) (bl_ 14 255) rfl rfl (any_of HT_.out (by kernel_rfl)) (fun _ _ _ h => h) (Or.inr ⟨by rfl, rfl⟩) ?_ ?_
      rotate_left
      · simp only [Act.put, List.setIfInBounds_toArray, List.set_cons_zero, List.set_cons_succ, i64_w, i32_w]
        rfl
      refine pure_ (i := 8) (N := some 13) (v := undef) (a' := ?_) (bl_ 14 511) rfl rfl (any_of HT_.out (by kernel_rfl)) (fun _ _ _ h => h) (Or.inr ⟨by rfl, rfl⟩) ?_ ?_
      rotate_left
      · simp only [Act.put, List.setIfInBounds_toArray, List.set_cons_zero, List.set_cons_succ, i64_w, i32_w]
        rfl
      refine pure_ (i := 9) (N := some 14) (v := undef) (a' := ?_) (bl_ 14 1023) rfl rfl (any_of HT_.out (by kernel_rfl)) (fun _ _ _ h => h) (Or.inr ⟨by rfl, rfl⟩) ?_ ?_
      rotate_left
      · simp only [Act.put, List.setIfInBounds_toArray, List.set_cons_zero, List.set_cons_succ, i64_w, i32_w]
        rfl
      refine pure_ (i := 10) (N := some 15) (v := undef) (a' := ?_) (bl_ 14 2047) rfl rfl (any_of HT_.out (by kernel_rfl)) (fun _ _ _ h => h) (Or.inr ⟨by rfl, rfl⟩) ?_ ?_
      rotate_left
      · simp only [Act.put, List.setIfInBounds_toArray, List.set_cons_zero, List.set_cons_succ, i64_w, i32_w]
        rfl
      refine pure_ (i := 11) (N := some 16) (v := undef) (a' := ?_) (bl_ 14 4095) rfl rfl (any_of HT_.out (by kernel_rfl)) (fun _ _ _ h => h) (Or.inr ⟨by rfl, rfl⟩) ?_ ?_
      rotate_left
      · simp only [Act.put, List.setIfInBounds_toArray, List.set_cons_zero, List.set_cons_succ, i64_w, i32_w]
        rfl
      refine pu_ 12 (some 17) (bl_ 14 8191) HT_ ?_
      refine pu_ 13 (some 4) (bl_ 14 16383) HT_ ?_
      refine done_ (done_of HT_.out (by kernel_rfl)) ?_
      try go_wp2
      go_ret
      exact ⟨qb_, hB_⟩
  · replace c4 := Bool.eq_false_iff.mpr c4
    subst c4
    have H1 : (some false) = some r := by rw [if_neg (show ¬ (false = true) by decide)] at H; exact H
    clear H
    have H := H1
    clear H1
    obtain rfl := Option.some.inj H
    go_enter Try.func79, Try.ntmps79
    try go_wp2_with (first | ((with_reducible refine gate_dst (N := 2) rfl ?_); refine bx_ 2 #[.slice A0_0 l0_0.length c0_0, .slice A0_1 l0_1.length c0_1] 33 ?_; intro gb954 hg w27 hbox hb; have BK954 := Aside0.mk hbox; have GW954 := gw_ w hg; have GE954 := GW954; replace HB := b1_ hb; clear hb hbox hg) | ((with_reducible refine gate_dst (N := 3) rfl ?_); refine bx_ 3 #[.slice A1_0 l1_0.length c1_0, .slice A1_1 l1_1.length c1_1] 33 ?_; intro gb955 hg w28 hbox hb; have BK955 := Aside0.mk hbox; have GW955 := gw_ w hg; have GE955 := GW955; replace HB := b1_ hb; have NB954_955 := gN_ BK954 hg; have NB955_954 := gP_ BK954 hg; replace BK954 := bb_ BK954 hb; clear hb hbox hg))
    replace BK954 := Aside0.mk (blk_drew BK954.out)
    replace BK955 := Aside0.mk (blk_drew BK955.out)
    replace HB := Aside0.mk (below_drew1 HB.out)
    refine start_ (n := 14) (S := fun w' => w'.cell? ⟨gb954, 0, none⟩ = some (.slice A0_0 l0_0.length c0_0) ∧ w'.cell? ⟨gb954, 1, none⟩ = some (.slice A0_1 l0_1.length c0_1)) (ds := []) (bl_ 14 0) (by kernel_rfl) rfl (by kernel_rfl) ⟨cz0_ BK954, cz1_ BK954⟩ (fun hHeld => ?_); refine with_tabW spec_AreIsomorphic.tab1 spec_AreIsomorphic.bits1 (fun HT_ HW_ => ?_)
    generalize w28.drew = w29 at BK954 BK955 HB hHeld ⊢
    refine ta_ 0 (some 5) (bl_ 14 1) HT_ HW_ hHeld ?_
    refine on_ 1 (some 6) (bl_ 14 3) HT_ (fun K hK => ?_)
    refine gO_ Try.func85 #[.agg #[.slice A0_0 l0_0.length c0_0, .slice A0_1 l0_1.length c0_1]] (by rfl) rfl rfl qa_ ?_
    with_reducible refine (spec_SurfaceOk.calls k _ _ l0_0 _ _ l0_1 false _ (cb_ HR0_0) HC0_0.out (cb_ HR0_1) HC0_1.out A3.out).mono ?_
    rintro e w30 ⟨rfl, hb⟩
    refine ⟨_, rfl, ?_⟩
    replace BK954 := bb_ BK954 hb
    replace BK955 := bb_ BK955 hb
    replace HB := b1_ hb
    clear hb
    refine hK.out _ _ ⟨cz0_ BK954, cz1_ BK954⟩ (fun hHeld => ?_)
    clear hK K
    refine no_ (some 6) ?_
    refine pu_ 2 (some 7) (bl_ 14 7) HT_ ?_
    refine pure_ (i := 3) (N := some 8) (v := undef) (a' := ?_) (bl_ 14 15) rfl rfl (any_of HT_.out (by kernel_rfl)) (fun _ _ _ h => h) (Or.inr ⟨by rfl, rfl⟩) ?_ ?_
    rotate_left
    · simp only [Act.put, List.setIfInBounds_toArray, List.set_cons_zero, List.set_cons_succ, i64_w, i32_w]
      rfl
    refine pure_ (i := 4) (N := some 9) (v := undef) (a' := ?_) (bl_ 14 31) rfl rfl (any_of HT_.out (by kernel_rfl)) (fun _ _ _ h => h) (Or.inr ⟨by rfl, rfl⟩) ?_ ?_
    rotate_left
    · simp only [Act.put, List.setIfInBounds_toArray, List.set_cons_zero, List.set_cons_succ, i64_w, i32_w]
      rfl
    refine pu_ 5 (some 10) (bl_ 14 63) HT_ ?_
    refine pu_ 6 (some 11) (bl_ 14 127) HT_ ?_
    refine pure_ (i := 7) (N := some 12) (v := undef) (a' := ?_) (bl_ 14 255) rfl rfl (any_of HT_.out (by kernel_rfl)) (fun _ _ _ h => h) (Or.inr ⟨by rfl, rfl⟩) ?_ ?_
    rotate_left
    · simp only [Act.put, List.setIfInBounds_toArray, List.set_cons_zero, List.set_cons_succ, i64_w, i32_w]
      rfl
    refine pure_ (i := 8) (N := some 13) (v := undef) (a' := ?_) (bl_ 14 511) rfl rfl (any_of HT_.out (by kernel_rfl)) (fun _ _ _ h => h) (Or.inr ⟨by rfl, rfl⟩) ?_ ?_
    rotate_left
    · simp only [Act.put, List.setIfInBounds_toArray, List.set_cons_zero, List.set_cons_succ, i64_w, i32_w]
      rfl
    refine pure_ (i := 9) (N := some 14) (v := undef) (a' := ?_) (bl_ 14 1023) rfl rfl (any_of HT_.out (by kernel_rfl)) (fun _ _ _ h => h) (Or.inr ⟨by rfl, rfl⟩) ?_ ?_
    rotate_left
    · simp only [Act.put, List.setIfInBounds_toArray, List.set_cons_zero, List.set_cons_succ, i64_w, i32_w]
      rfl
    refine pure_ (i := 10) (N := some 15) (v := undef) (a' := ?_) (bl_ 14 2047) rfl rfl (any_of HT_.out (by kernel_rfl)) (fun _ _ _ h => h) (Or.inr ⟨by rfl, rfl⟩) ?_ ?_
    rotate_left
    · simp only [Act.put, List.setIfInBounds_toArray, List.set_cons_zero, List.set_cons_succ, i64_w, i32_w]
      rfl
    refine pure_ (i := 11) (N := some 16) (v := undef) (a' := ?_) (bl_ 14 4095) rfl rfl (any_of HT_.out (by kernel_rfl)) (fun _ _ _ h => h) (Or.inr ⟨by rfl, rfl⟩) ?_ ?_
    rotate_left
    · simp only [Act.put, List.setIfInBounds_toArray, List.set_cons_zero, List.set_cons_succ, i64_w, i32_w]
      rfl
    refine pu_ 12 (some 17) (bl_ 14 8191) HT_ ?_
    refine pu_ 13 (some 4) (bl_ 14 16383) HT_ ?_
    refine done_ (done_of HT_.out (by kernel_rfl)) ?_
    try go_wp2
    go_ret
    exact ⟨qb_, hB_⟩
end Go.Proofs.Ytoijcallajegfaa.A
end
section
namespace Go.Proofs.Ytoijcallajegfaa.A
open Go.RowKit Go.Proofs.YtoijcallajegfaaW.PrintWords Go.Proofs.YtoijcallajegfaaW.PrintLast Go.Proofs.YtoijcallajegfaaW.PrintMore
attribute [local go_sem] max2_int min2_int max_two min_two max_three min_three max_four min_four
set_option linter.unusedVariables false
set_option linter.unusedSimpArgs false
def spec_IsFixedBy.f (k : Nat) (l0_0 : List Int) (l0_1 : List Int) (a1 : ByteArray) : Option (Bool) := (spec_RunWord.f k l0_0 l0_1 a1).bind fun bt972 => (if bt972.2.2 = true then ((spec_AreIsomorphic.f k bt972.1 bt972.2.1 l0_0 l0_1).bind fun t980 => (some t980)) else (some false))
theorem spec_IsFixedBy.mono : ∀ a0 a1 a2 k, LeO (spec_IsFixedBy.f k a0 a1 a2) (spec_IsFixedBy.f (k + 1) a0 a1 a2) := by
  intro a0 a1 a2 k
  unfold spec_IsFixedBy.f
  repeat' first|exact spec_AreIsomorphic.mono _ _ _ _ _|exact spec_RunWord.mono _ _ _ _|exact lo_|refine LeO.ite ?_ ?_|refine LeO.bind ?_ (fun _ => ?_)
set_option maxHeartbeats 8000000 in
set_option maxRecDepth 100000 in
theorem spec_IsFixedBy.calls (k : Nat) (A0_0 : Option Addr) (c0_0 : Nat) (l0_0 : List Int) (A0_1 : Option Addr) (c0_1 : Nat) (l0_1 : List Int) (a1 : ByteArray) (r : Bool) (w : World) (hr0_0 : Kd.C (Kd.int .i64) w A0_0 l0_0.length l0_0) (hc0_0 : l0_0.length ≤ c0_0) (hr0_1 : Kd.C (Kd.int .i64) w A0_1 l0_1.length l0_1) (hc0_1 : l0_1.length ≤ c0_1) (h : spec_IsFixedBy.f k l0_0 l0_1 a1 = some r) :
    Calls Try.prog 32 #[.agg #[.slice A0_0 l0_0.length c0_0, .slice A0_1 l0_1.length c0_1], .string a1] w fun e w' => e = .returned (.bool r) ∧ Below w.heap.size w w' := by
  have hu33 := Try.underlying33
  have HR0_0 := Aside0.mk hr0_0
  have HC0_0 := Aside0.mk hc0_0
  clear hr0_0 hc0_0
  have HR0_1 := Aside0.mk hr0_1
  have HC0_1 := Aside0.mk hc0_1
  clear hr0_1 hc0_1
  have HB := Aside0.mk (Below.refl w.heap.size w)
  have H := h
  unfold spec_IsFixedBy.f at H
  clear h
  obtain ⟨⟨t972, t975, t978⟩, A3, H⟩ := bi_ H
  try dsimp only at H
  by_cases c4 : t978 = true
  · subst c4
    rw [if_pos rfl] at H
    obtain ⟨t980, A5, H⟩ := bi_ H
    obtain rfl := Option.some.inj H
    go_enter Try.func32, Try.ntmps32
    go_wp2_with (first | ((with_reducible refine gate_dst (N := 2) rfl ?_); refine bx_ 2 #[.slice A0_0 l0_0.length c0_0, .slice A0_1 l0_1.length c0_1] 33 ?_; intro gb971 hg w6 hbox hb; have BK971 := Aside0.mk hbox; have GW971 := gw_ w hg; have GE971 := GW971; replace HB := b1_ hb; clear hb hbox hg; obtain ⟨hcz7_0, hcz7_1, hfz7_0, hfz7_1⟩ := c2_ BK971) | ((with_reducible refine gate_callee (f := 78) rfl ?_); refine gL_ (some 10) Try.func78 #[.agg #[.slice A0_0 l0_0.length c0_0, .slice A0_1 l0_1.length c0_1], .string a1] rfl qa_ ?_; (with_reducible refine (spec_RunWord.calls k _ _ l0_0 _ _ l0_1 a1 t972 t975 true _ (cb_ HR0_0) HC0_0.out (cb_ HR0_1) HC0_1.out A3.out).mono ?_); rintro e w8 ⟨v973, v976, rfl, ho0, ho1, hb⟩; refine ⟨_, rfl, ?_⟩; have HO974 := rl_ w ho0; have HO977 := rl_ w ho1; replace BK971 := bb_ BK971 hb; replace HB := b1_ hb; clear hb ho0 ho1) | ((with_reducible refine gate_dst (N := 5) rfl ?_); refine bx_ 5 #[.slice none 0 0, .slice none 0 0] 33 ?_; intro gb979 hg w9 hbox hb; replace HO974 := rb_ HO974 hb; replace HO977 := rb_ HO977 hb; have BK979 := Aside0.mk hbox; have GW979 := gw_ w hg; have GE979 := GW979; replace HB := b1_ hb; have NB971_979 := gN_ BK971 hg; have NB979_971 := gP_ BK971 hg; replace BK971 := bb_ BK971 hb; clear hb hbox hg; obtain ⟨Ao10, co10, eo10⟩ := Kd.R_slice HO974.out; subst eo10; have hnb11 := NB979_971.out; have hnc11 := NB971_979.out; obtain ⟨hcz12_0, hcz12_1, hfz12_0, hfz12_1⟩ := c2_ BK979; obtain ⟨Ao13, co13, eo13⟩ := Kd.R_slice HO977.out; subst eo13; obtain ⟨hcz14_0, hcz14_1, hfz14_0, hfz14_1⟩ := c2_ BK971) | (go_at_call 79; (with_reducible refine (spec_AreIsomorphic.calls k _ _ t972 _ _ t975 _ _ l0_0 _ _ l0_1 t980 _ ?side1 ?side2 ?side3 ?side4 ?side5 ?side6 ?side7 ?side8 A5.out).mono ?_); (case side1 => refine (Kd.R_reads' (e := 3) (base := w.heap.size) (ok := fun k_ => some k_ ≠ (.slice Ao13 t975.length co13 : Value).ownBlock) (n := t972.length) (c := co10) ?_).2.2; exact (rw_ (fa_ HO974 BK979))); (case side2 => exact (Kd.R_reads' HO974.out).2.1); (case side3 => refine (Kd.R_reads' (e := 3) (base := w.heap.size) (ok := fun k_ => some k_ ≠ (.slice Ao10 t972.length co10 : Value).ownBlock) (n := t975.length) (c := co13) ?_).2.2; exact (rw_ (fa_ HO977 BK979))); (case side4 => exact (Kd.R_reads' HO977.out).2.1); (case side5 => exact Kd.C_below HR0_0.out hB_); (case side6 => exact HC0_0.out); (case side7 => exact Kd.C_below HR0_1.out hB_); (case side8 => exact HC0_1.out); rintro e w15 ⟨rfl, hb⟩; replace HO974 := Aside0.mk (Kd.R_below (rw_ (fa_ HO974 BK979)) hb); replace HO977 := Aside0.mk (Kd.R_below (rw_ (fa_ HO977 BK979)) hb); replace BK971 := Aside0.mk (blk_below (g := gb971) (o := .cells #[.slice A0_0 l0_0.length c0_0, .slice A0_1 l0_1.length c0_1] 33 (0, 0)) (by (with_reducible repeat (first | refine blk_drewN ?_ _ | refine blk_drew ?_ | refine blk_alloc ?_ _)); refine blk_far ?_ NB971_979.out _; (with_reducible repeat (first | refine blk_drewN ?_ _ | refine blk_drew ?_ | refine blk_alloc ?_ _)); refine blk_far ?_ NB971_979.out _; (with_reducible repeat (first | refine blk_drewN ?_ _ | refine blk_drew ?_ | refine blk_alloc ?_ _)); exact BK971.out) hb); replace BK979 := Aside0.mk (blk_below (g := gb979) (o := .cells #[.slice Ao10 t972.length co10, .slice Ao13 t975.length co13] 33 (0, 0)) qp_ hb); replace HB := b1_ hb; clear hb))
    go_ret
    exact ⟨qb_, hB_⟩
  · replace c4 := Bool.eq_false_iff.mpr c4
    subst c4
    have H1 : (some false) = some r := by rw [if_neg (show ¬ (false = true) by decide)] at H; exact H
    clear H
    have H := H1
    clear H1
    obtain rfl := Option.some.inj H
    go_enter Try.func32, Try.ntmps32
    go_wp2_with (first | ((with_reducible refine gate_dst (N := 2) rfl ?_); refine bx_ 2 #[.slice A0_0 l0_0.length c0_0, .slice A0_1 l0_1.length c0_1] 33 ?_; intro gb971 hg w16 hbox hb; have BK971 := Aside0.mk hbox; have GW971 := gw_ w hg; have GE971 := GW971; replace HB := b1_ hb; clear hb hbox hg; obtain ⟨hcz17_0, hcz17_1, hfz17_0, hfz17_1⟩ := c2_ BK971) | ((with_reducible refine gate_callee (f := 78) rfl ?_); refine gL_ (some 10) Try.func78 #[.agg #[.slice A0_0 l0_0.length c0_0, .slice A0_1 l0_1.length c0_1], .string a1] rfl qa_ ?_; (with_reducible refine (spec_RunWord.calls k _ _ l0_0 _ _ l0_1 a1 t972 t975 false _ (cb_ HR0_0) HC0_0.out (cb_ HR0_1) HC0_1.out A3.out).mono ?_); rintro e w18 ⟨v973, v976, rfl, ho0, ho1, hb⟩; refine ⟨_, rfl, ?_⟩; have HO974 := rl_ w ho0; have HO977 := rl_ w ho1; replace BK971 := bb_ BK971 hb; replace HB := b1_ hb; clear hb ho0 ho1) | ((with_reducible refine gate_dst (N := 5) rfl ?_); refine bx_ 5 #[.slice none 0 0, .slice none 0 0] 33 ?_; intro gb979 hg w19 hbox hb; replace HO974 := rb_ HO974 hb; replace HO977 := rb_ HO977 hb; have BK979 := Aside0.mk hbox; have GW979 := gw_ w hg; have GE979 := GW979; replace HB := b1_ hb; have NB971_979 := gN_ BK971 hg; have NB979_971 := gP_ BK971 hg; replace BK971 := bb_ BK971 hb; clear hb hbox hg; obtain ⟨Ao20, co20, eo20⟩ := Kd.R_slice HO974.out; subst eo20; have hnb21 := NB979_971.out; have hnc21 := NB971_979.out; obtain ⟨hcz22_0, hcz22_1, hfz22_0, hfz22_1⟩ := c2_ BK979; obtain ⟨Ao23, co23, eo23⟩ := Kd.R_slice HO977.out; subst eo23))
    go_ret
    exact ⟨qb_, hB_⟩
end Go.Proofs.Ytoijcallajegfaa.A
end
section
namespace Go.Proofs.Ytoijcallajegfaa.A
open Go.RowKit Go.Proofs.YtoijcallajegfaaW.PrintWords Go.Proofs.YtoijcallajegfaaW.PrintLast Go.Proofs.YtoijcallajegfaaW.PrintMore
attribute [local go_sem] max2_int min2_int max_two min_two max_three min_three max_four min_four
set_option linter.unusedVariables false
set_option linter.unusedSimpArgs false
def spec_HasHalfTurn.f (k : Nat) (l0_0 : List Int) (l0_1 : List Int) : Option (Bool) := (spec_IsFixedBy.f k l0_0 l0_1 (⟨#[83, 83]⟩ : ByteArray)).bind fun t1026 => (some t1026)
theorem spec_HasHalfTurn.mono : ∀ a0 a1 k, LeO (spec_HasHalfTurn.f k a0 a1) (spec_HasHalfTurn.f (k + 1) a0 a1) := by
  intro a0 a1 k
  unfold spec_HasHalfTurn.f
  repeat' first|exact spec_IsFixedBy.mono _ _ _ _|exact lo_|refine LeO.ite ?_ ?_|refine LeO.bind ?_ (fun _ => ?_)
set_option maxHeartbeats 8000000 in
set_option maxRecDepth 100000 in
theorem spec_HasHalfTurn.calls (k : Nat) (A0_0 : Option Addr) (c0_0 : Nat) (l0_0 : List Int) (A0_1 : Option Addr) (c0_1 : Nat) (l0_1 : List Int) (r : Bool) (w : World) (hr0_0 : Kd.C (Kd.int .i64) w A0_0 l0_0.length l0_0) (hc0_0 : l0_0.length ≤ c0_0) (hr0_1 : Kd.C (Kd.int .i64) w A0_1 l0_1.length l0_1) (hc0_1 : l0_1.length ≤ c0_1) (h : spec_HasHalfTurn.f k l0_0 l0_1 = some r) :
    Calls Try.prog 36 #[.agg #[.slice A0_0 l0_0.length c0_0, .slice A0_1 l0_1.length c0_1]] w fun e w' => e = .returned (.bool r) ∧ Below w.heap.size w w' := by
  have hu33 := Try.underlying33
  have HR0_0 := Aside0.mk hr0_0
  have HC0_0 := Aside0.mk hc0_0
  clear hr0_0 hc0_0
  have HR0_1 := Aside0.mk hr0_1
  have HC0_1 := Aside0.mk hc0_1
  clear hr0_1 hc0_1
  have HB := Aside0.mk (Below.refl w.heap.size w)
  have H := h
  unfold spec_HasHalfTurn.f at H
  clear h
  obtain ⟨t1026, A2, H⟩ := bi_ H
  obtain rfl := Option.some.inj H
  go_enter Try.func36, Try.ntmps36
  go_wp2_with (first | ((with_reducible refine gate_dst (N := 1) rfl ?_); refine bx_ 1 #[.slice A0_0 l0_0.length c0_0, .slice A0_1 l0_1.length c0_1] 33 ?_; intro gb1025 hg w3 hbox hb; have BK1025 := Aside0.mk hbox; have GW1025 := gw_ w hg; have GE1025 := GW1025; replace HB := b1_ hb; clear hb hbox hg; obtain ⟨hcz4_0, hcz4_1, hfz4_0, hfz4_1⟩ := c2_ BK1025) | ((with_reducible refine gate_callee (f := 32) rfl ?_); refine gL_ (some 4) Try.func32 #[.agg #[.slice A0_0 l0_0.length c0_0, .slice A0_1 l0_1.length c0_1], .string (⟨#[83, 83]⟩ : ByteArray)] rfl qa_ ?_; (with_reducible refine (spec_IsFixedBy.calls k _ _ l0_0 _ _ l0_1 (⟨#[83, 83]⟩ : ByteArray) t1026 _ (cb_ HR0_0) HC0_0.out (cb_ HR0_1) HC0_1.out A2.out).mono ?_); rintro e w5 ⟨rfl, hb⟩; refine ⟨_, rfl, ?_⟩; replace BK1025 := bb_ BK1025 hb; replace HB := b1_ hb; clear hb))
  go_ret
  exact ⟨qb_, hB_⟩
end Go.Proofs.Ytoijcallajegfaa.A
end
section
/- What a call made lies apart from what was there. No conditions. -/
namespace Go.Proofs.Ytoijcallajegfaa.M
open Go.RowKit Go.Proofs.YtoijcallajegfaaW.PrintWords Go.Proofs.YtoijcallajegfaaW.PrintLast Go.Proofs.YtoijcallajegfaaW.PrintMore
theorem fresh_R {α : Type} {d : Kd α} {e b b0 : Nat} {w : World} {ok : Nat → Prop} {v : Value} {xs : List α} (h : d.R e w b ok v xs) (hb : b0 ≤ b) : d.R e w b0 (fun k => b ≤ k ∧ k < w.heap.size) v xs :=
  Kd.R_lower (Kd.R_mono (Kd.R_bound h) (fun _ hk => ⟨hk.2.1, hk.2.2.1⟩)) hb
theorem box_store {w0 W : World} {g t : Nat} {cs : Array Value} (hb : W.heap[g]? = some (.cells cs t (0, 0))) (x y : Value) (hB : Below w0.heap.size w0 W) (hg : w0.heap.size ≤ g) :
    ((W.setCell ⟨g, 0, none⟩ x).setCell ⟨g, 1, none⟩ y).heap[g]? = some (.cells ((cs.setIfInBounds 0 x).setIfInBounds 1 y) t (0, 0)) ∧ Kept W ((W.setCell ⟨g, 0, none⟩ x).setCell ⟨g, 1, none⟩ y) (fun k => k = g) ∧ Below w0.heap.size w0 ((W.setCell ⟨g, 0, none⟩ x).setCell ⟨g, 1, none⟩ y) :=
  ⟨blk_set (blk_set hb 0 x) 1 y, Kept.setCell (p := ⟨g, 1, none⟩) (Kept.setCell (p := ⟨g, 0, none⟩) (Kept.refl W (fun k => k = g)) (.inl rfl) x) (.inl rfl) y, below_set (below_set hB hg) hg⟩
end Go.Proofs.Ytoijcallajegfaa.M
end
section
namespace Go.Proofs.Ytoijcallajegfaa.A
open Go.RowKit Go.Proofs.YtoijcallajegfaaW.PrintWords Go.Proofs.YtoijcallajegfaaW.PrintLast Go.Proofs.YtoijcallajegfaaW.PrintMore Go.Proofs.Ytoijcallajegfaa.M
set_option linter.unusedVariables false
set_option linter.unusedSimpArgs false
def laws_FnExactHasHalfTurn.F (k : Nat) (l0_0 : List Int) (l0_1 : List Int) : Prop := ∃ s0 : Int, laws_szSurface.f l0_0 l0_1 1048576 = some s0 ∧ (s0 < 0 ∨ (¬ s0 < 0 ∧ (∃ (r0 : Bool), laws_toSurface.f k l0_0 l0_1 = some (l0_0, l0_1) ∧ laws_eqSurface.f k l0_0 l0_1 l0_0 l0_1 = some true ∧ spec_HasHalfTurn.f k l0_0 l0_1 = some r0 ∧ impl_HasHalfTurn.f k l0_0 l0_1 = some r0)))
set_option maxHeartbeats 8000000 in
set_option maxRecDepth 100000 in
theorem laws_FnExactHasHalfTurn.calls (k : Nat) (A0_0 : Option Addr) (c0_0 : Nat) (l0_0 : List Int) (A0_1 : Option Addr) (c0_1 : Nat) (l0_1 : List Int) (w : World) (hr0_0 : Kd.C (Kd.int .i64) w A0_0 l0_0.length l0_0) (hc0_0 : l0_0.length ≤ c0_0) (hr0_1 : Kd.C (Kd.int .i64) w A0_1 l0_1.length l0_1) (hc0_1 : l0_1.length ≤ c0_1) (h : laws_FnExactHasHalfTurn.F k l0_0 l0_1) :
    Calls Try.prog 6 #[.agg #[.slice A0_0 l0_0.length c0_0, .slice A0_1 l0_1.length c0_1]] w fun e w' => e = .returned (.bool true) ∧ Below w.heap.size w w' := by
  have hu33 := Try.underlying33
  have hu46 := Try.underlying46
  have HR0_0 := Aside0.mk hr0_0; have HC0_0 := Aside0.mk hc0_0; clear hr0_0 hc0_0
  have HR0_1 := Aside0.mk hr0_1; have HC0_1 := Aside0.mk hc0_1; clear hr0_1 hc0_1
  have HB := Aside0.mk (Below.refl w.heap.size w)
  unfold laws_FnExactHasHalfTurn.F at h
  obtain ⟨s0, FZ0, h⟩ := h
  replace FZ0 := Aside0.mk FZ0
  rcases h with hneg | ⟨hneg, h⟩
  · have hq0 : decide (s0 < 0) = true := decide_eq_true hneg
    go_enter Try.func6, Try.ntmps6
    go_upto_region 2 with (first | ((with_reducible refine gate_dst (N := 1) rfl ?_); refine bx_ 1 #[.slice A0_0 l0_0.length c0_0, .slice A0_1 l0_1.length c0_1] 46 ?_; intro gbp0 hg w1 hbox hb; have HBo := HB.out; have n_ := Aside0.mk (below_then HBo HBo.size hb); clear HB; have HB := n_; clear n_; have HSw1 := Aside0.mk hb.size; have BKp0 := Aside0.mk hbox; have GIp0 := Aside0.mk (show w.heap.size ≤ gbp0 ∧ gbp0 < w1.heap.size from ⟨by omega, blk_lt hbox⟩); have GEp0 := Aside0.mk (show w.heap.size ≤ gbp0 from by have := HBo.size; omega); clear hb hbox hg HBo; obtain ⟨hczp0_0, hczp0_1, hfzp0_0, hfzp0_1⟩ := c2_ BKp0))
    go_wp2_with (first | ((with_reducible refine gate_callee (f := 31) rfl ?_); refine goesL_ _ rfl rfl Try.func31 (by kernel_rfl) rfl #[.agg #[.slice A0_0 l0_0.length c0_0, .slice A0_1 l0_1.length c0_1], .int .i64 1048576] rfl (by (try simp only [List.map_toArray, List.map_cons, List.map_nil]); first | done | rfl) ?_; have HBo := HB.out; refine (laws_szSurface.calls A0_0 c0_0 l0_0 A0_1 c0_1 l0_1 1048576 s0 _ (Kd.C_below HR0_0.out HB.out) HC0_0.out (Kd.C_below HR0_1.out HB.out) HC0_1.out FZ0.out).mono ?_; rintro e w2 ⟨rfl, hb0⟩; refine ⟨_, rfl, ?_⟩; clear hczp0_0 hfzp0_0 hczp0_1 hfzp0_1; have n_ := Aside0.mk (blk_below BKp0.out hb0); clear BKp0; have BKp0 := n_; clear n_; have n_ := Aside0.mk (below_then HBo HBo.size hb0); clear HB; have HB := n_; clear n_; have HSw2 := Aside0.mk hb0.size; clear hb0 HBo; obtain ⟨hczp0_0, hczp0_1, hfzp0_0, hfzp0_1⟩ := c2_ BKp0))
    go_ret
    exact ⟨rfl, HB.out⟩
  have hq0 : decide (s0 < 0) = false := decide_eq_false hneg
  clear hneg
  obtain ⟨r0, FS0, FE0, FW, FG⟩ := h
  replace FS0 := Aside0.mk FS0
  replace FE0 := Aside0.mk FE0
  replace FW := Aside0.mk FW
  replace FG := Aside0.mk FG
  go_enter Try.func6, Try.ntmps6
  go_upto_region 2 with (first | ((with_reducible refine gate_dst (N := 1) rfl ?_); refine bx_ 1 #[.slice A0_0 l0_0.length c0_0, .slice A0_1 l0_1.length c0_1] 46 ?_; intro gbp0 hg w1 hbox hb; have HBo := HB.out; have n_ := Aside0.mk (below_then HBo HBo.size hb); clear HB; have HB := n_; clear n_; have HSw1 := Aside0.mk hb.size; have BKp0 := Aside0.mk hbox; have GIp0 := Aside0.mk (show w.heap.size ≤ gbp0 ∧ gbp0 < w1.heap.size from ⟨by omega, blk_lt hbox⟩); have GEp0 := Aside0.mk (show w.heap.size ≤ gbp0 from by have := HBo.size; omega); clear hb hbox hg HBo; obtain ⟨hczp0_0, hczp0_1, hfzp0_0, hfzp0_1⟩ := c2_ BKp0))
  go_upto_region 5 with (first | ((with_reducible refine gate_callee (f := 31) rfl ?_); refine goesL_ _ rfl rfl Try.func31 (by kernel_rfl) rfl #[.agg #[.slice A0_0 l0_0.length c0_0, .slice A0_1 l0_1.length c0_1], .int .i64 1048576] rfl (by (try simp only [List.map_toArray, List.map_cons, List.map_nil]); first | done | rfl) ?_; have HBo := HB.out; refine (laws_szSurface.calls A0_0 c0_0 l0_0 A0_1 c0_1 l0_1 1048576 s0 _ (Kd.C_below HR0_0.out HB.out) HC0_0.out (Kd.C_below HR0_1.out HB.out) HC0_1.out FZ0.out).mono ?_; rintro e w2 ⟨rfl, hb0⟩; refine ⟨_, rfl, ?_⟩; clear hczp0_0 hfzp0_0 hczp0_1 hfzp0_1; have n_ := Aside0.mk (blk_below BKp0.out hb0); clear BKp0; have BKp0 := n_; clear n_; have n_ := Aside0.mk (below_then HBo HBo.size hb0); clear HB; have HB := n_; clear n_; have HSw2 := Aside0.mk hb0.size; clear hb0 HBo; obtain ⟨hczp0_0, hczp0_1, hfzp0_0, hfzp0_1⟩ := c2_ BKp0))
  go_upto_region 6 with (first | ((with_reducible refine gate_callee (f := 33) rfl ?_); refine goesL_ _ rfl rfl Try.func33 (by kernel_rfl) rfl #[.agg #[.slice A0_0 l0_0.length c0_0, .slice A0_1 l0_1.length c0_1]] rfl (by (try simp only [List.map_toArray, List.map_cons, List.map_nil]); first | done | rfl) ?_; have HBo := HB.out; refine (laws_toSurface.calls k A0_0 c0_0 l0_0 A0_1 c0_1 l0_1 l0_0 l0_1 _ (Kd.C_below HR0_0.out HB.out) HC0_0.out (Kd.C_below HR0_1.out HB.out) HC0_1.out FS0.out).mono ?_; rintro e w3 ⟨v0_, v1_, rfl, h0_, h1_, hb0⟩; refine ⟨_, rfl, ?_⟩; clear hczp0_0 hfzp0_0 hczp0_1 hfzp0_1; have n_ := Aside0.mk (blk_below BKp0.out hb0); clear BKp0; have BKp0 := n_; clear n_; have n_ := Aside0.mk (below_then HBo HBo.size hb0); clear HB; have HB := n_; clear n_; have HSw3 := Aside0.mk hb0.size; have NE1 := Aside0.mk h0_.1; have Hx1a := Aside0.mk (fresh_R (b0 := w.heap.size) h0_ HBo.size); clear h0_; obtain ⟨Ax1a, cx1a, ex1a⟩ := Kd.R_slice Hx1a.out; subst ex1a; have Hx1b := Aside0.mk (fresh_R (b0 := w.heap.size) h1_ HBo.size); clear h1_; obtain ⟨Ax1b, cx1b, ex1b⟩ := Kd.R_slice Hx1b.out; subst ex1b; clear hb0 HBo; obtain ⟨hczp0_0, hczp0_1, hfzp0_0, hfzp0_1⟩ := c2_ BKp0) | ((with_reducible refine gate_callee (f := 36) rfl ?_); refine goesL_ _ rfl rfl Try.func36 (by kernel_rfl) rfl #[.agg #[.slice Ax1a l0_0.length cx1a, .slice Ax1b l0_1.length cx1b]] rfl (by (try simp only [List.map_toArray, List.map_cons, List.map_nil]); first | done | rfl) ?_; have HBo := HB.out; refine (spec_HasHalfTurn.calls k Ax1a cx1a l0_0 Ax1b cx1b l0_1 r0 _ (Kd.R_reads' Hx1a.out).2.2 (Kd.R_reads' Hx1a.out).2.1 (Kd.R_reads' Hx1b.out).2.2 (Kd.R_reads' Hx1b.out).2.1 FW.out).mono ?_; rintro e w4 ⟨rfl, hb0⟩; refine ⟨_, rfl, ?_⟩; clear hczp0_0 hfzp0_0 hczp0_1 hfzp0_1; have n_ := Aside0.mk (blk_below BKp0.out hb0); clear BKp0; have BKp0 := n_; clear n_; have n_ := Aside0.mk (Kd.R_below Hx1a.out hb0); clear Hx1a; have Hx1a := n_; clear n_; have n_ := Aside0.mk (Kd.R_below Hx1b.out hb0); clear Hx1b; have Hx1b := n_; clear n_; have n_ := Aside0.mk (below_then HBo HBo.size hb0); clear HB; have HB := n_; clear n_; have HSw4 := Aside0.mk hb0.size; clear hb0 HBo; obtain ⟨hczp0_0, hczp0_1, hfzp0_0, hfzp0_1⟩ := c2_ BKp0; clear Hx1a Hx1b))
  go_upto_region 7 with (first | ((with_reducible refine gate_callee (f := 33) rfl ?_); refine goesL_ _ rfl rfl Try.func33 (by kernel_rfl) rfl #[.agg #[.slice A0_0 l0_0.length c0_0, .slice A0_1 l0_1.length c0_1]] rfl (by (try simp only [List.map_toArray, List.map_cons, List.map_nil]); first | done | rfl) ?_; have HBo := HB.out; refine (laws_toSurface.calls k A0_0 c0_0 l0_0 A0_1 c0_1 l0_1 l0_0 l0_1 _ (Kd.C_below HR0_0.out HB.out) HC0_0.out (Kd.C_below HR0_1.out HB.out) HC0_1.out FS0.out).mono ?_; rintro e w5 ⟨v0_, v1_, rfl, h0_, h1_, hb0⟩; refine ⟨_, rfl, ?_⟩; clear hczp0_0 hfzp0_0 hczp0_1 hfzp0_1; have n_ := Aside0.mk (blk_below BKp0.out hb0); clear BKp0; have BKp0 := n_; clear n_; have n_ := Aside0.mk (below_then HBo HBo.size hb0); clear HB; have HB := n_; clear n_; have HSw5 := Aside0.mk hb0.size; have NE2 := Aside0.mk h0_.1; have Hx2a := Aside0.mk (fresh_R (b0 := w.heap.size) h0_ HBo.size); clear h0_; obtain ⟨Ax2a, cx2a, ex2a⟩ := Kd.R_slice Hx2a.out; subst ex2a; have Hx2b := Aside0.mk (fresh_R (b0 := w.heap.size) h1_ HBo.size); clear h1_; obtain ⟨Ax2b, cx2b, ex2b⟩ := Kd.R_slice Hx2b.out; subst ex2b; clear hb0 HBo; obtain ⟨hczp0_0, hczp0_1, hfzp0_0, hfzp0_1⟩ := c2_ BKp0) | ((with_reducible refine gate_dst (N := 5) rfl ?_); refine bx_ 5 #[.slice none 0 0, .slice none 0 0] 33 ?_; intro gbx0 hg w6 hbox hb; clear hczp0_0 hfzp0_0 hczp0_1 hfzp0_1; have HBo := HB.out; have n_ := Aside0.mk (blk_below BKp0.out hb); clear BKp0; have BKp0 := n_; clear n_; have n_ := Aside0.mk (Kd.R_below Hx2a.out hb); clear Hx2a; have Hx2a := n_; clear n_; have n_ := Aside0.mk (Kd.R_below Hx2b.out hb); clear Hx2b; have Hx2b := n_; clear n_; have n_ := Aside0.mk (below_then HBo HBo.size hb); clear HB; have HB := n_; clear n_; have HSw6 := Aside0.mk hb.size; have BKx0 := Aside0.mk hbox; have GIx0 := Aside0.mk (show w5.heap.size ≤ gbx0 ∧ gbx0 < w6.heap.size from ⟨by omega, blk_lt hbox⟩); have GEx0 := Aside0.mk (show w.heap.size ≤ gbx0 from by have := HBo.size; omega); clear hb hbox hg HBo; obtain ⟨hczp0_0, hczp0_1, hfzp0_0, hfzp0_1⟩ := c2_ BKp0; obtain ⟨hczx0_0, hczx0_1, hfzx0_0, hfzx0_1⟩ := c2_ BKx0) | ((with_reducible refine gate_store (t := 33) (p := 5) rfl ?_); refine store_event (t := 33) (p := 5) (v := ?vo) (w1 := ((w6.setCell ⟨gbx0, 0, none⟩ (.slice Ax2a l0_0.length cx2a)).setCell ⟨gbx0, 1, none⟩ (.slice Ax2b l0_1.length cx2b))) ?hg ?ho ?hn ?hr ?_; (case ho => rfl); (case hg => rfl); (case hn => rfl); (case hr => first | (go_simp; done) | (go_simp; rfl)); intro wq hw; subst hw; obtain ⟨hbox, hkp, hB2⟩ := box_store BKx0.out (.slice Ax2a l0_0.length cx2a) (.slice Ax2b l0_1.length cx2b) HB.out GEx0.out; generalize hw : ((w6.setCell ⟨gbx0, 0, none⟩ (.slice Ax2a l0_0.length cx2a)).setCell ⟨gbx0, 1, none⟩ (.slice Ax2b l0_1.length cx2b)) = w7 at hbox hkp hB2 ⊢; clear hw; clear hczp0_0 hfzp0_0 hczp0_1 hfzp0_1 hczx0_0 hfzx0_0 hczx0_1 hfzx0_1; have n_ := Aside0.mk (blk_kept (g := gbp0) BKp0.out hkp (fun hs => by have hk := GIp0.out; have := hk.1; have := hk.2; have := GIx0.out; have := HSw1.out; have := HSw2.out; have := HSw3.out; have := HSw4.out; have := HSw5.out; have := HSw6.out; omega)); clear BKp0; have BKp0 := n_; clear n_; have n_ := Aside0.mk (Kd.R_kept Hx2a.out hkp (fun k_ hk hs => by have := hk.1; have := hk.2; have := GIx0.out; have := HSw1.out; have := HSw2.out; have := HSw3.out; have := HSw4.out; have := HSw5.out; have := HSw6.out; omega)); clear Hx2a; have Hx2a := n_; clear n_; have n_ := Aside0.mk (Kd.R_kept Hx2b.out hkp (fun k_ hk hs => by have := hk.1; have := hk.2; have := GIx0.out; have := HSw1.out; have := HSw2.out; have := HSw3.out; have := HSw4.out; have := HSw5.out; have := HSw6.out; omega)); clear Hx2b; have Hx2b := n_; clear n_; have n_ := Aside0.mk (hB2); clear HB; have HB := n_; clear n_; have HSw7 := Aside0.mk hkp.1; clear BKx0; have BKx0 := Aside0.mk (show w7.heap[gbx0]? = some (.cells #[.slice Ax2a l0_0.length cx2a, .slice Ax2b l0_1.length cx2b] 33 (0, 0)) from hbox); clear hbox hkp hB2; obtain ⟨hczp0_0, hczp0_1, hfzp0_0, hfzp0_1⟩ := c2_ BKp0; obtain ⟨hczx0_0, hczx0_1, hfzx0_0, hfzx0_1⟩ := c2_ BKx0))
  go_upto_region 10 with (first | ((with_reducible refine gate_callee (f := 29) rfl ?_); refine goesL_ _ rfl rfl Try.func29 (by kernel_rfl) rfl #[.agg #[.slice Ax2a l0_0.length cx2a, .slice Ax2b l0_1.length cx2b]] rfl (by (try simp only [List.map_toArray, List.map_cons, List.map_nil]); first | done | rfl) ?_; have HBo := HB.out; refine (impl_HasHalfTurn.calls k Ax2a cx2a l0_0 Ax2b cx2b l0_1 r0 _ (Kd.R_reads' Hx2a.out).2.2 (Kd.R_reads' Hx2a.out).2.1 (Kd.R_reads' Hx2b.out).2.2 (Kd.R_reads' Hx2b.out).2.1 FG.out).mono ?_; rintro e w8 ⟨rfl, hb0⟩; refine ⟨_, rfl, ?_⟩; clear hczp0_0 hfzp0_0 hczp0_1 hfzp0_1 hczx0_0 hfzx0_0 hczx0_1 hfzx0_1; have n_ := Aside0.mk (blk_below BKp0.out hb0); clear BKp0; have BKp0 := n_; clear n_; have n_ := Aside0.mk (Kd.R_below Hx2a.out hb0); clear Hx2a; have Hx2a := n_; clear n_; have n_ := Aside0.mk (Kd.R_below Hx2b.out hb0); clear Hx2b; have Hx2b := n_; clear n_; have n_ := Aside0.mk (blk_below BKx0.out hb0); clear BKx0; have BKx0 := n_; clear n_; have n_ := Aside0.mk (below_then HBo HBo.size hb0); clear HB; have HB := n_; clear n_; have HSw8 := Aside0.mk hb0.size; clear hb0 HBo; obtain ⟨hczp0_0, hczp0_1, hfzp0_0, hfzp0_1⟩ := c2_ BKp0; obtain ⟨hczx0_0, hczx0_1, hfzx0_0, hfzx0_1⟩ := c2_ BKx0))
  clear hczp0_0 hfzp0_0 hczp0_1 hfzp0_1 hczx0_0 hfzx0_0 hczx0_1 hfzx0_1
  have n_ := Aside0.mk (blk_drew BKp0.out)
  clear BKp0
  have BKp0 := n_
  clear n_
  have n_ := Aside0.mk (Kd.R_drew Hx2a.out)
  clear Hx2a
  have Hx2a := n_
  clear n_
  have n_ := Aside0.mk (Kd.R_drew Hx2b.out)
  clear Hx2b
  have Hx2b := n_
  clear n_
  have n_ := Aside0.mk (blk_drew BKx0.out)
  clear BKx0
  have BKx0 := n_
  clear n_
  have n_ := Aside0.mk (below_drew1 HB.out)
  clear HB
  have HB := n_
  clear n_
  have HSw10 := Aside0.mk (show w8.heap.size ≤ w8.drew.heap.size from Nat.le_refl _)
  refine start_ (n := 5) (S := fun w' => w'.cell? ⟨gbp0, 0, none⟩ = some (.slice A0_0 l0_0.length c0_0) ∧ w'.cell? ⟨gbp0, 1, none⟩ = some (.slice A0_1 l0_1.length c0_1) ∧ w'.cell? ⟨gbx0, 0, none⟩ = some (.slice Ax2a l0_0.length cx2a) ∧ w'.cell? ⟨gbx0, 1, none⟩ = some (.slice Ax2b l0_1.length cx2b)) (ds := []) (bl_ 5 0) (by kernel_rfl) rfl (by kernel_rfl) ⟨cz0_ BKp0, cz1_ BKp0, cz0_ BKx0, cz1_ BKx0⟩ (fun hHeld => ?_)
  generalize hwd : w8.drew = w10 at BKp0 Hx2a Hx2b BKx0 HB HSw10 hHeld ⊢
  clear hwd
  refine take_ (i := 0) (N := some 22) (v := ?_) (a' := ?_) (bl_ 5 1) rfl rfl (by kernel_rfl) (fun _ _ _ h => h) (Or.inl ⟨by rfl, ?_⟩) hHeld ?_ ?_
  rotate_left
  · rintro w' ⟨s0, s1, s2, s3⟩
    go_simp
    with_reducible rfl
  rotate_left
  · simp only [Act.put, List.setIfInBounds_toArray, List.set_cons_zero, List.set_cons_succ, i64_w, i32_w]
    rfl
  refine take_ (i := 1) (N := some 23) (v := ?_) (a' := ?_) (bl_ 5 3) rfl rfl (by kernel_rfl) (fun _ _ _ h => h) (Or.inl ⟨by rfl, ?_⟩) hHeld ?_ ?_
  rotate_left
  · rintro w' ⟨s0, s1, s2, s3⟩
    go_simp
    with_reducible rfl
  rotate_left
  · simp only [Act.put, List.setIfInBounds_toArray, List.set_cons_zero, List.set_cons_succ, i64_w, i32_w]
    rfl
  refine one_ (i := 2) (N := some 24) (bl_ 5 7) rfl rfl (by kernel_rfl) (by decide) (fun K hK => ?_)
  replace hK := Aside0.mk hK
  refine gO_ Try.func33 #[.agg #[.slice A0_0 l0_0.length c0_0, .slice A0_1 l0_1.length c0_1]] (by rfl) rfl rfl (by (try simp only [List.map_toArray, List.map_cons, List.map_nil]); first | done | rfl) ?_
  have HBo := HB.out
  refine (laws_toSurface.calls k A0_0 c0_0 l0_0 A0_1 c0_1 l0_1 l0_0 l0_1 _ (Kd.C_below HR0_0.out HB.out) HC0_0.out (Kd.C_below HR0_1.out HB.out) HC0_1.out FS0.out).mono ?_
  rintro e w11 ⟨v0_, v1_, rfl, h0_, h1_, hb0⟩
  refine ⟨_, rfl, ?_⟩
  clear hHeld
  have n_ := Aside0.mk (blk_below BKp0.out hb0)
  clear BKp0
  have BKp0 := n_
  clear n_
  have n_ := Aside0.mk (Kd.R_below Hx2a.out hb0)
  clear Hx2a
  have Hx2a := n_
  clear n_
  have n_ := Aside0.mk (Kd.R_below Hx2b.out hb0)
  clear Hx2b
  have Hx2b := n_
  clear n_
  have n_ := Aside0.mk (blk_below BKx0.out hb0)
  clear BKx0
  have BKx0 := n_
  clear n_
  have n_ := Aside0.mk (below_then HBo HBo.size hb0)
  clear HB
  have HB := n_
  clear n_
  have HSw11 := Aside0.mk hb0.size
  have NE3 := Aside0.mk h0_.1
  have Hx3a := Aside0.mk (fresh_R (b0 := w.heap.size) h0_ HBo.size)
  clear h0_
  obtain ⟨Ax3a, cx3a, ex3a⟩ := Kd.R_slice Hx3a.out
  subst ex3a
  have Hx3b := Aside0.mk (fresh_R (b0 := w.heap.size) h1_ HBo.size)
  clear h1_
  obtain ⟨Ax3b, cx3b, ex3b⟩ := Kd.R_slice Hx3b.out
  subst ex3b
  clear hb0 HBo
  refine hK.out _ _ ⟨cz0_ BKp0, cz1_ BKp0, cz0_ BKx0, cz1_ BKx0⟩ (fun hHeld => ?_)
  clear hK K
  refine no_ (some 24) ?_
  refine one_ (i := 3) (N := some 25) (bl_ 5 15) rfl rfl (by kernel_rfl) (by decide) (fun K hK => ?_)
  replace hK := Aside0.mk hK
  refine gO_ Try.func35 #[.agg #[.slice Ax2a l0_0.length cx2a, .slice Ax2b l0_1.length cx2b], .agg #[.slice Ax3a l0_0.length cx3a, .slice Ax3b l0_1.length cx3b]] (by rfl) rfl rfl (by (try simp only [List.map_toArray, List.map_cons, List.map_nil]); first | done | rfl) ?_
  have HBo := HB.out
  refine (laws_eqSurface.calls k Ax2a cx2a l0_0 Ax2b cx2b l0_1 Ax3a cx3a l0_0 Ax3b cx3b l0_1 true _ (Kd.R_reads' Hx2a.out).2.2 (Kd.R_reads' Hx2a.out).2.1 (Kd.R_reads' Hx2b.out).2.2 (Kd.R_reads' Hx2b.out).2.1 (Kd.R_reads' Hx3a.out).2.2 (Kd.R_reads' Hx3a.out).2.1 (Kd.R_reads' Hx3b.out).2.2 (Kd.R_reads' Hx3b.out).2.1 FE0.out).mono ?_
  rintro e w12 ⟨rfl, hb0⟩
  refine ⟨_, rfl, ?_⟩
  clear hHeld
  have n_ := Aside0.mk (blk_below BKp0.out hb0)
  clear BKp0
  have BKp0 := n_
  clear n_
  have n_ := Aside0.mk (Kd.R_below Hx2a.out hb0)
  clear Hx2a
  have Hx2a := n_
  clear n_
  have n_ := Aside0.mk (Kd.R_below Hx2b.out hb0)
  clear Hx2b
  have Hx2b := n_
  clear n_
  have n_ := Aside0.mk (blk_below BKx0.out hb0)
  clear BKx0
  have BKx0 := n_
  clear n_
  have n_ := Aside0.mk (Kd.R_below Hx3a.out hb0)
  clear Hx3a
  have Hx3a := n_
  clear n_
  have n_ := Aside0.mk (Kd.R_below Hx3b.out hb0)
  clear Hx3b
  have Hx3b := n_
  clear n_
  have n_ := Aside0.mk (below_then HBo HBo.size hb0)
  clear HB
  have HB := n_
  clear n_
  have HSw12 := Aside0.mk hb0.size
  clear hb0 HBo
  refine hK.out _ _ ⟨cz0_ BKp0, cz1_ BKp0, cz0_ BKx0, cz1_ BKx0⟩ (fun hHeld => ?_)
  clear hK K
  refine no_ (some 25) ?_
  refine pure_ (i := 4) (N := some 26) (v := ?_) (a' := ?_) (bl_ 5 31) rfl rfl (by kernel_rfl) (fun _ _ _ h => h) (Or.inl ⟨by rfl, ?_⟩) ?_ ?_
  rotate_left
  · intro w'
    go_simp
    with_reducible rfl
  rotate_left
  · simp only [Act.put, List.setIfInBounds_toArray, List.set_cons_zero, List.set_cons_succ, i64_w, i32_w]
    rfl
  refine done_ (by kernel_rfl) ?_
  clear hHeld
  obtain ⟨hczp0_0, hczp0_1, hfzp0_0, hfzp0_1⟩ := c2_ BKp0
  obtain ⟨hczx0_0, hczx0_1, hfzx0_0, hfzx0_1⟩ := c2_ BKx0
  clear Hx3a Hx3b
  go_wp2
  go_ret
  exact ⟨rfl, HB.out⟩
end Go.Proofs.Ytoijcallajegfaa.A
end
section
/- Plain mathematics: permutations as lists of numbers. No conditions. -/
namespace Go.Proofs.Ytoijcallajegfaa.M
set_option linter.unusedVariables false
set_option linter.unusedSimpArgs false
def I (l : List Nat) : List Int := l.map Int.ofNat
def g (p : List Nat) (i : Nat) : Nat := p.getD i 0
def tab (n : Nat) (f : Nat → Nat) : List Nat := (List.range n).map f
theorem I_len (l : List Nat) : (I l).length = l.length := by simp [I]
theorem I_inj {a b : List Nat} (h : I a = I b) : a = b := by
  unfold I at h
  exact (List.map_inj_right (fun x y hxy => Int.ofNat.inj hxy)).mp h
theorem tab_len (n : Nat) (f : Nat → Nat) : (tab n f).length = n := by simp [tab]
theorem g_tab {n : Nat} {f : Nat → Nat} {i : Nat} (h : i < n) : g (tab n f) i = f i := by simp [g, tab, List.getD_eq_getElem?_getD, h]
theorem g_get {p : List Nat} {i : Nat} (h : i < p.length) : g p i = p[i] := by simp [g, List.getD_eq_getElem?_getD, h]
theorem g_mem {p : List Nat} {i : Nat} (h : i < p.length) : g p i ∈ p := by rw [g_get h]; exact List.getElem_mem h
theorem mem_g {p : List Nat} {x : Nat} (h : x ∈ p) : ∃ i, i < p.length ∧ g p i = x := by
  obtain ⟨i, hi, rfl⟩ := List.mem_iff_getElem.mp h
  exact ⟨i, hi, g_get hi⟩
theorem ext_g {a b : List Nat} (hl : a.length = b.length) (h : ∀ i, i < a.length → g a i = g b i) : a = b := by
  apply List.ext_getElem hl
  intro i h1 h2
  rw [← g_get h1, ← g_get h2]
  exact h i h1
theorem eq_tab {l : List Nat} {n : Nat} {f : Nat → Nat} (hl : l.length = n) (h : ∀ i, i < n → g l i = f i) : l = tab n f :=
  ext_g (by rw [tab_len, hl]) (fun i hi => by rw [hl] at hi; rw [g_tab hi, h i hi])
theorem g_set {p : List Nat} {i x j : Nat} (h : i < p.length) : g (p.set i x) j = if i = j then x else g p j := by
  unfold g
  rw [List.getD_eq_getElem?_getD, List.getD_eq_getElem?_getD, List.getElem?_set]
  by_cases e : i = j
  · subst e
    simp [h]
  · simp [e]
theorem I_set (p : List Nat) (i x : Nat) : (I p).set i (x : Int) = I (p.set i x) := by simp [I, List.map_set]
theorem I_snoc (p : List Nat) (x : Nat) : I p ++ [(x : Int)] = I (p ++ [x]) := by simp [I]
theorem I_rep (n x : Nat) : I (List.replicate n x) = List.replicate n (x : Int) := by simp [I]
structure IsP (p : List Nat) : Prop where
  lt : ∀ x ∈ p, x < p.length
  nd : p.Nodup
instance (p : List Nat) : Decidable (IsP p) := decidable_of_iff ((∀ x ∈ p, x < p.length) ∧ p.Nodup) ⟨fun h => ⟨h.1, h.2⟩, fun h => ⟨h.lt, h.nd⟩⟩
theorem nodup_le (n : Nat) : ∀ l : List Nat, l.Nodup → (∀ x ∈ l, x < n) → l.length ≤ n := by
  induction n with
  | zero =>
    intro l _ h
    cases l with
    | nil => simp
    | cons a l => exact absurd (h a (by simp)) (by omega)
  | succ n ih =>
    intro l hn h
    have h1 := ih (l.erase n) (hn.erase n) (fun x hx => by
      have h2 := (List.Nodup.mem_erase_iff hn).mp hx
      have h3 := h x h2.2
      have h4 := h2.1
      omega)
    have h5 := @List.length_erase _ _ _ n l
    split at h5 <;> omega
theorem mem_all {p : List Nat} (hp : IsP p) {x : Nat} (h : x < p.length) : x ∈ p := by
  apply Classical.byContradiction
  intro hx
  have := nodup_le p.length (x :: p) (List.nodup_cons.mpr ⟨hx, hp.nd⟩) (fun y hy => by
    rcases List.mem_cons.mp hy with rfl | hy
    · exact h
    · exact hp.lt y hy)
  simp at this
  omega
theorem g_lt {p : List Nat} (hp : IsP p) {i : Nat} (h : i < p.length) : g p i < p.length := hp.lt _ (g_mem h)
theorem g_inj {p : List Nat} (hp : IsP p) {i j : Nat} (hi : i < p.length) (hj : j < p.length) (h : g p i = g p j) : i = j := by
  rw [g_get hi, g_get hj] at h
  have hw := List.pairwise_iff_getElem.mp hp.nd
  rcases Nat.lt_trichotomy i j with hij | hij | hij
  · exact absurd h (hw i j hi hj hij)
  · exact hij
  · exact absurd h.symm (hw j i hj hi hij)
def ix (p : List Nat) (x : Nat) : Nat := p.idxOf x
theorem ix_lt {p : List Nat} (hp : IsP p) {x : Nat} (h : x < p.length) : ix p x < p.length := List.idxOf_lt_length_of_mem (mem_all hp h)
theorem g_ix {p : List Nat} (hp : IsP p) {x : Nat} (h : x < p.length) : g p (ix p x) = x := by
  rw [g_get (ix_lt hp h)]
  exact List.getElem_idxOf (ix_lt hp h)
theorem ix_g {p : List Nat} (hp : IsP p) {i : Nat} (h : i < p.length) : ix p (g p i) = i :=
  g_inj hp (ix_lt hp (g_lt hp h)) h (g_ix hp (g_lt hp h))
theorem isP_mk {p : List Nat} (h1 : ∀ i, i < p.length → g p i < p.length) (h2 : ∀ i j, i < p.length → j < p.length → g p i = g p j → i = j) : IsP p := by
  refine ⟨fun x hx => ?_, ?_⟩
  · obtain ⟨i, hi, rfl⟩ := mem_g hx
    exact h1 i hi
  · refine List.pairwise_iff_getElem.mpr ?_
    intro i j hi hj hij e'
    rw [← g_get hi, ← g_get hj] at e'
    have := h2 i j hi hj e'
    omega
theorem isP_tab {n : Nat} {f : Nat → Nat} (h1 : ∀ i, i < n → f i < n) (h2 : ∀ i j, i < n → j < n → f i = f j → i = j) : IsP (tab n f) := by
  refine isP_mk (fun i hi => ?_) (fun i j hi hj e => ?_)
  · rw [tab_len] at hi ⊢; rw [g_tab hi]; exact h1 i hi
  · rw [tab_len] at hi hj; rw [g_tab hi, g_tab hj] at e; exact h2 i j hi hj e
def inv (p : List Nat) : List Nat := tab p.length (ix p)
theorem inv_len (p : List Nat) : (inv p).length = p.length := tab_len _ _
theorem g_inv {p : List Nat} {i : Nat} (h : i < p.length) : g (inv p) i = ix p i := g_tab h
theorem isP_inv {p : List Nat} (hp : IsP p) : IsP (inv p) := isP_tab (fun i hi => ix_lt hp hi) (fun i j hi hj e => by rw [← g_ix hp hi, ← g_ix hp hj, e])
def thn (p q : List Nat) : List Nat := tab p.length (fun i => g q (g p i))
theorem thn_len (p q : List Nat) : (thn p q).length = p.length := tab_len _ _
theorem g_thn {p q : List Nat} {i : Nat} (h : i < p.length) : g (thn p q) i = g q (g p i) := g_tab h
theorem isP_thn {p q : List Nat} (hp : IsP p) (hq : IsP q) (hl : p.length = q.length) : IsP (thn p q) :=
  isP_tab (fun i hi => by have h1 := g_lt hp hi; have h2 := g_lt hq (i := g p i) (by omega); omega)
    (fun i j hi hj e => g_inj hp hi hj (g_inj hq (by have := g_lt hp hi; omega) (by have := g_lt hp hj; omega) e))
def ren (p names : List Nat) : List Nat := tab p.length (fun j => g names (g p (ix names j)))
theorem ren_len (p names : List Nat) : (ren p names).length = p.length := tab_len _ _
theorem g_ren {p names : List Nat} {j : Nat} (h : j < p.length) : g (ren p names) j = g names (g p (ix names j)) := g_tab h
end Go.Proofs.Ytoijcallajegfaa.M
end
section
/- Plain mathematics: permutations of whole numbers, and what is reached by two of them. No conditions. -/
namespace Go.Proofs.Ytoijcallajegfaa.M
set_option linter.unusedVariables false
set_option linter.unusedSimpArgs false
open Go.RowKit Go.Proofs.YtoijcallajegfaaW.PrintWords Go.Proofs.YtoijcallajegfaaW.PrintLast Go.Proofs.YtoijcallajegfaaW.PrintMore
theorem w64 {x : Int} (h0 : -9223372036854775808 ≤ x) (h1 : x ≤ 9223372036854775807) : wrap64 x = x := by unfold wrap64; omega
theorem w64s (i : Nat) (h : i ≤ 9000000000000000000) : wrap64 ((i : Int) + 1) = ((i + 1 : Nat) : Int) := by rw [w64 (by omega) (by omega)]; omega
theorem ev_succ {α : Type} {f : Nat → Option α} {r : α} (h : Ev (fun k => f (k + 1)) r) : Ev f r := Ev.step (fun _ => rfl) h
theorem rdI (p : List Nat) (i : Nat) : rd (I p) (i : Int) = ((g p i : Nat) : Int) := by
  unfold rd g I
  simp only [Int.toNat_natCast, List.getD_eq_getElem?_getD, List.getElem?_map]
  cases p[i]? <;> rfl
theorem rd_get (l : List Int) (i : Nat) (h : i < l.length) : rd l (i : Int) = l[i] := by
  unfold rd
  simp [List.getD_eq_getElem?_getD, h]
theorem mem_I {p : List Nat} {x : Nat} : (x : Int) ∈ I p ↔ x ∈ p := by
  unfold I
  constructor
  · intro h
    obtain ⟨y, hy, e⟩ := List.mem_map.mp h
    have : y = x := Int.ofNat.inj e
    exact this ▸ hy
  · intro h
    exact List.mem_map.mpr ⟨x, h, rfl⟩
def PI (l : List Int) : Prop := l.length ≤ 24 ∧ (∀ x ∈ l, 0 ≤ x ∧ x < (l.length : Int)) ∧ l.Nodup
instance : DecidablePred PI := fun l => by unfold PI; infer_instance
def permB (l : List Int) : Bool := decide (PI l)
def N (l : List Int) : List Nat := l.map Int.toNat
theorem N_I (p : List Nat) : N (I p) = p := by
  unfold N I
  rw [List.map_map]
  exact List.map_id'' (fun x => rfl) p
theorem N_len (l : List Int) : (N l).length = l.length := by simp [N]
theorem I_N {l : List Int} (h : ∀ x ∈ l, 0 ≤ x) : I (N l) = l := by
  unfold N I
  rw [List.map_map]
  conv => rhs; rw [← List.map_id l]
  apply List.map_congr_left
  intro x hx
  have := h x hx
  simp only [Function.comp, id]
  show ((x.toNat : Nat) : Int) = x
  omega
theorem PI_nat {l : List Int} (h : PI l) : ∃ p, l = I p ∧ IsP p ∧ p.length ≤ 24 := by
  obtain ⟨h1, h2, h3⟩ := h
  refine ⟨N l, (I_N (fun x hx => (h2 x hx).1)).symm, ?_, by rw [N_len]; exact h1⟩
  have e := I_N (fun x hx => (h2 x hx).1)
  refine ⟨fun x hx => ?_, ?_⟩
  · have := (h2 (x : Int) (by rw [← e]; exact mem_I.mpr hx)).2
    rw [N_len]
    omega
  · rw [← e] at h3
    unfold I at h3
    exact (List.pairwise_map.mp h3).imp (fun {a b} hab hh => hab (by rw [hh]))
theorem PI_I {p : List Nat} : PI (I p) ↔ IsP p ∧ p.length ≤ 24 := by
  constructor
  · intro h
    obtain ⟨q, e, h1, h2⟩ := PI_nat h
    have := I_inj e
    subst this
    exact ⟨h1, h2⟩
  · intro ⟨h1, h2⟩
    refine ⟨by rw [I_len]; exact h2, fun x hx => ?_, ?_⟩
    · unfold I at hx
      obtain ⟨y, hy, rfl⟩ := List.mem_map.mp hx
      have := h1.lt y hy
      rw [I_len]
      exact ⟨Int.natCast_nonneg y, Int.ofNat_lt.mpr this⟩
    · unfold I
      exact List.pairwise_map.mpr (h1.nd.imp (fun {a b} hab hh => hab (Int.ofNat.inj hh)))
theorem permB_I {p : List Nat} : permB (I p) = true ↔ IsP p ∧ p.length ≤ 24 := by
  unfold permB
  rw [decide_eq_true_iff]
  exact PI_I
def okFrom (l : List Int) (i : Nat) : Prop := ∀ j : Nat, i ≤ j → j < l.length → 0 ≤ rd l (j : Int) ∧ rd l (j : Int) < (l.length : Int) ∧ rd l (j : Int) ∉ l.take j
theorem okFrom_end (l : List Int) (i : Nat) (h : l.length ≤ i) : okFrom l i := fun j h1 h2 => by omega
theorem okFrom_step {l : List Int} {i : Nat} (h : 0 ≤ rd l (i : Int) ∧ rd l (i : Int) < (l.length : Int) ∧ rd l (i : Int) ∉ l.take i) : okFrom l i ↔ okFrom l (i + 1) := by
  constructor
  · intro k j h1 h2
    exact k j (by omega) h2
  · intro k j h1 h2
    by_cases e : j = i
    · subst e
      exact h
    · exact k j (by omega) h2
theorem okFrom_not {l : List Int} {i : Nat} (hi : i < l.length) (h : ¬ (0 ≤ rd l (i : Int) ∧ rd l (i : Int) < (l.length : Int) ∧ rd l (i : Int) ∉ l.take i)) : ¬ okFrom l i := fun k => h (k i (Nat.le_refl _) hi)
theorem okFrom_PI {l : List Int} (h : l.length ≤ 24) : okFrom l 0 ↔ PI l := by
  constructor
  · intro k
    refine ⟨h, fun x hx => ?_, ?_⟩
    · obtain ⟨i, hi, rfl⟩ := List.mem_iff_getElem.mp hx
      have := k i (Nat.zero_le _) hi
      rw [rd_get l i hi] at this
      exact ⟨this.1, this.2.1⟩
    · refine List.pairwise_iff_getElem.mpr ?_
      intro i j hi hj hij e
      have := (k j (Nat.zero_le _) hj).2.2
      rw [rd_get l j hj, ← e] at this
      exact this (List.mem_take_iff_getElem.mpr ⟨i, by omega, rfl⟩)
  · intro ⟨_, h2, h3⟩ j _ hj
    rw [rd_get l j hj]
    refine ⟨(h2 _ (List.getElem_mem hj)).1, (h2 _ (List.getElem_mem hj)).2, fun hm => ?_⟩
    obtain ⟨i, hi, e⟩ := List.mem_take_iff_getElem.mp hm
    exact List.pairwise_iff_getElem.mp h3 i j (by omega) hj (by omega) e
theorem permB_of {l : List Int} {b : Bool} (h : l.length ≤ 24) (hb : b = true ↔ okFrom l 0) : b = permB l := by
  rw [Bool.eq_iff_iff, hb, okFrom_PI h]
  unfold permB
  rw [decide_eq_true_iff]
theorem take_succ (l : List Int) (i : Nat) (h : i < l.length) : l.take (i + 1) = l.take i ++ [rd l (i : Int)] := by
  rw [rd_get l i h, List.take_append_getElem h]
def st1 (out : List Nat) (x : Nat) : List Nat := if x ∈ out then out else out ++ [x]
def bfs (p q : List Nat) : Nat → Nat → List Nat → List Nat
  | 0, _, out => out
  | f + 1, a, out => if a < out.length then bfs p q f (a + 1) (st1 (st1 out (g p (g out a))) (g q (g out a))) else out
def reach (p q : List Nat) (s : Nat) : List Nat := bfs p q (p.length + 1) 0 [s]
structure RInv (n : Nat) (out : List Nat) : Prop where
  nd : out.Nodup
  lt : ∀ x ∈ out, x < n
theorem RInv.le {n : Nat} {out : List Nat} (h : RInv n out) : out.length ≤ n := nodup_le n out h.nd h.lt
theorem RInv.st {n : Nat} {out : List Nat} {x : Nat} (h : RInv n out) (hx : x < n) : RInv n (st1 out x) := by
  unfold st1
  split
  · exact h
  · rename_i hn
    refine ⟨List.nodup_append.mpr ⟨h.nd, by simp, fun a ha b hb e => ?_⟩, fun y hy => ?_⟩
    · have : b = x := by simpa using hb
      subst this
      exact hn (e ▸ ha)
    · rcases List.mem_append.mp hy with hy | hy
      · exact h.lt y hy
      · have : y = x := by simpa using hy
        omega
theorem st1_len (out : List Nat) (x : Nat) : out.length ≤ (st1 out x).length := by
  unfold st1
  split <;> simp
theorem RInv.g {n : Nat} {out : List Nat} {a : Nat} (h : RInv n out) (ha : a < out.length) : M.g out a < n := h.lt _ (g_mem ha)
structure Sf (r u : List Nat) : Prop where
  pr : IsP r
  pu : IsP u
  le : r.length ≤ 24
  eq : u.length = r.length
  pos : 0 < r.length
  all : (reach r u 0).length = r.length
def surfB (r u : List Int) : Bool := permB r && permB u && decide (r.length = u.length) && decide (0 < r.length) && ((reach (N r) (N u) 0).length == r.length)
theorem surf_nat {r u : List Int} (h : surfB r u = true) : ∃ r' u', r = I r' ∧ u = I u' ∧ Sf r' u' := by
  unfold surfB at h
  simp only [Bool.and_eq_true, decide_eq_true_eq, beq_iff_eq] at h
  obtain ⟨⟨⟨⟨h1, h2⟩, h3⟩, h4⟩, h5⟩ := h
  obtain ⟨r', rfl, a1, a2⟩ := PI_nat (of_decide_eq_true h1)
  obtain ⟨u', rfl, b1, b2⟩ := PI_nat (of_decide_eq_true h2)
  rw [N_I, N_I, I_len] at h5
  rw [I_len, I_len] at h3
  rw [I_len] at h4
  exact ⟨r', u', rfl, rfl, a1, b1, a2, h3.symm, h4, h5⟩
theorem surfB_I {r u : List Nat} : surfB (I r) (I u) = true ↔ Sf r u := by
  constructor
  · intro h
    obtain ⟨r', u', e1, e2, hs⟩ := surf_nat h
    have := I_inj e1
    have := I_inj e2
    subst_vars
    exact hs
  · intro h
    unfold surfB
    simp only [Bool.and_eq_true, decide_eq_true_eq, beq_iff_eq]
    rw [N_I, N_I, I_len, I_len]
    exact ⟨⟨⟨⟨permB_I.mpr ⟨h.pr, h.le⟩, permB_I.mpr ⟨h.pu, by have := h.le; have := h.eq; omega⟩⟩, h.eq.symm⟩, h.pos⟩, h.all⟩
end Go.Proofs.Ytoijcallajegfaa.M
end
section
/- Plain mathematics: going round a permutation. No conditions. -/
namespace Go.Proofs.Ytoijcallajegfaa.M
set_option linter.unusedVariables false
set_option linter.unusedSimpArgs false
def itr (p : List Nat) : Nat → Nat → Nat
  | 0, s => s
  | m + 1, s => g p (itr p m s)
theorem itr_lt {p : List Nat} (hp : IsP p) (m : Nat) {s : Nat} (hs : s < p.length) : itr p m s < p.length := by
  induction m with
  | zero => exact hs
  | succ m ih => exact g_lt hp ih
theorem itr_add (p : List Nat) (a b s : Nat) : itr p (a + b) s = itr p a (itr p b s) := by
  induction a with
  | zero => simp [itr]
  | succ a ih =>
    have e : a + 1 + b = (a + b) + 1 := by omega
    rw [e, itr, itr, ih]
theorem itr_back {p : List Nat} (hp : IsP p) {s : Nat} (hs : s < p.length) (i d : Nat) (h : itr p (i + d) s = itr p i s) : itr p d s = s := by
  induction i with
  | zero =>
    have e : 0 + d = d := by omega
    rw [e] at h
    exact h
  | succ i ih =>
    have e : i + 1 + d = (i + d) + 1 := by omega
    rw [e] at h
    exact ih (g_inj hp (itr_lt hp _ hs) (itr_lt hp _ hs) h)
theorem period {p : List Nat} (hp : IsP p) {s : Nat} (hs : s < p.length) : ∃ m, 1 ≤ m ∧ m ≤ p.length ∧ itr p m s = s := by
  apply Classical.byContradiction
  intro hn
  have hd : ((List.range (p.length + 1)).map (fun m => itr p m s)).Nodup := by
    refine List.pairwise_map.mpr ?_
    refine List.pairwise_iff_getElem.mpr ?_
    intro i j hi hj hij
    rw [List.length_range] at hi hj
    rw [List.getElem_range, List.getElem_range]
    intro e
    have : itr p (j - i) s = s := itr_back hp hs i (j - i) (by
      have e2 : i + (j - i) = j := by omega
      rw [e2]
      exact e.symm)
    exact hn ⟨j - i, by omega, by omega, this⟩
  have := nodup_le p.length _ hd (fun x hx => by
    obtain ⟨m, _, rfl⟩ := List.mem_map.mp hx
    exact itr_lt hp m hs)
  simp at this
  omega
end Go.Proofs.Ytoijcallajegfaa.M
end
section
/- Plain mathematics: surfaces, and what the four letters make of them. No conditions. -/
namespace Go.Proofs.Ytoijcallajegfaa.M
set_option linter.unusedVariables false
set_option linter.unusedSimpArgs false
theorem st1_mem {out : List Nat} {x y : Nat} : y ∈ st1 out x ↔ y ∈ out ∨ y = x := by
  unfold st1
  split
  · rename_i h
    constructor
    · exact Or.inl
    · rintro (h' | rfl)
      · exact h'
      · exact h
  · simp
theorem st1_g {out : List Nat} {x i : Nat} (h : i < out.length) : g (st1 out x) i = g out i := by
  unfold st1
  split
  · rfl
  · unfold g
    rw [List.getD_eq_getElem?_getD, List.getD_eq_getElem?_getD, List.getElem?_append_left h]
theorem st1_le (out : List Nat) (x : Nat) : out.length ≤ (st1 out x).length := by
  unfold st1
  split
  · exact Nat.le_refl _
  · simp
theorem bfs_ind {r u : List Nat} {n : Nat} (S : Nat → Prop) (h1 : ∀ x, x < n → S x → S (g r x) ∧ g r x < n) (h2 : ∀ x, x < n → S x → S (g u x) ∧ g u x < n) : ∀ (F a : Nat) (out : List Nat), (∀ x ∈ out, S x ∧ x < n) → ∀ x ∈ bfs r u F a out, S x ∧ x < n := by
  intro F
  induction F with
  | zero => intro a out h; exact h
  | succ F ih =>
    intro a out h
    unfold bfs
    split
    · rename_i ha
      obtain ⟨s, l⟩ := h _ (g_mem ha)
      refine ih _ _ (fun x hx => ?_)
      rcases st1_mem.mp hx with hx | rfl
      · rcases st1_mem.mp hx with hx | rfl
        · exact h x hx
        · exact h1 _ l s
      · exact h2 _ l s
    · exact h
theorem bfs_sub {r u : List Nat} : ∀ (F a : Nat) (out : List Nat), ∀ x ∈ out, x ∈ bfs r u F a out := by
  intro F
  induction F with
  | zero => intro a out x h; exact h
  | succ F ih =>
    intro a out x h
    unfold bfs
    split
    · exact ih _ _ x (st1_mem.mpr (.inl (st1_mem.mpr (.inl h))))
    · exact h
theorem bfs_rinv {r u : List Nat} {n : Nat} (h1 : ∀ x, x < n → g r x < n) (h2 : ∀ x, x < n → g u x < n) : ∀ (F a : Nat) (out : List Nat), RInv n out → RInv n (bfs r u F a out) := by
  intro F
  induction F with
  | zero => intro a out h; exact h
  | succ F ih =>
    intro a out h
    unfold bfs
    split
    · rename_i ha
      have hx := h.g ha
      exact ih _ _ ((h.st (h1 _ hx)).st (h2 _ hx))
    · exact h
theorem bfs_shut {r u : List Nat} {n : Nat} (h1 : ∀ x, x < n → g r x < n) (h2 : ∀ x, x < n → g u x < n) : ∀ (F a : Nat) (out : List Nat), RInv n out → a ≤ out.length → n < F + a → (∀ i, i < a → g r (g out i) ∈ out ∧ g u (g out i) ∈ out) → ∀ x ∈ bfs r u F a out, g r x ∈ bfs r u F a out ∧ g u x ∈ bfs r u F a out := by
  intro F
  induction F with
  | zero =>
    intro a out h ha hF
    have := h.le
    omega
  | succ F ih =>
    intro a out h ha hF hc
    unfold bfs
    split
    · rename_i ha'
      have hx := h.g ha'
      have r1 := h.st (h1 _ hx)
      have l1 := st1_le out (g r (g out a))
      have l2 := st1_le (st1 out (g r (g out a))) (g u (g out a))
      refine ih _ _ (r1.st (h2 _ hx)) (by omega) (by omega) (fun i hi => ?_)
      have e : g (st1 (st1 out (g r (g out a))) (g u (g out a))) i = g out i := by
        rw [st1_g (by omega), st1_g (by omega)]
      rw [e]
      by_cases hia : i < a
      · exact ⟨st1_mem.mpr (.inl (st1_mem.mpr (.inl (hc i hia).1))), st1_mem.mpr (.inl (st1_mem.mpr (.inl (hc i hia).2)))⟩
      · obtain rfl : i = a := by omega
        exact ⟨st1_mem.mpr (.inl (st1_mem.mpr (.inr rfl))), st1_mem.mpr (.inr rfl)⟩
    · intro x hx
      obtain ⟨i, hi, rfl⟩ := mem_g hx
      exact hc i (by omega)
theorem nodup_sub_len5 : ∀ (a b : List Nat), a.Nodup → (∀ x ∈ a, x ∈ b) → a.length ≤ b.length := by
  intro a
  induction a with
  | nil => intro b _ _; simp
  | cons x a ih =>
    intro b hn h
    obtain ⟨h1, h2⟩ := List.nodup_cons.mp hn
    have hx : x ∈ b := h x (by simp)
    have := ih (b.erase x) h2 (fun y hy => (List.mem_erase_of_ne (fun e => h1 (by rw [← e]; exact hy))).mpr (h y (by simp [hy])))
    rw [List.length_erase_of_mem hx] at this
    have hp := List.length_pos_of_mem hx
    simp
    omega
def Tr (r u : List Nat) : Prop := ∀ S : Nat → Prop, S 0 → (∀ x, x < r.length → S x → S (g r x)) → (∀ x, x < r.length → S x → S (g u x)) → ∀ x, x < r.length → S x
theorem sf_of_tr {r u : List Nat} (pr : IsP r) (pu : IsP u) (le : r.length ≤ 24) (eq : u.length = r.length) (pos : 0 < r.length) (h : Tr r u) : Sf r u := by
  have b1 : ∀ x, x < r.length → g r x < r.length := fun x hx => g_lt pr hx
  have b2 : ∀ x, x < r.length → g u x < r.length := fun x hx => by have := g_lt pu (i := x) (by omega); omega
  have hri : RInv r.length (reach r u 0) := bfs_rinv b1 b2 _ _ _ ⟨by simp, by simpa using pos⟩
  have hsh := bfs_shut b1 b2 (r.length + 1) 0 [0] ⟨by simp, by simpa using pos⟩ (by simp) (by omega) (fun i hi => by omega)
  have hall : ∀ x, x < r.length → x ∈ reach r u 0 := h (fun x => x ∈ reach r u 0) (bfs_sub _ _ _ 0 (by simp)) (fun x _ hx => (hsh x hx).1) (fun x _ hx => (hsh x hx).2)
  refine ⟨pr, pu, le, eq, pos, ?_⟩
  have l1 := hri.le
  have l2 := nodup_sub_len5 (List.range r.length) (reach r u 0) List.nodup_range (fun x hx => hall x (List.mem_range.mp hx))
  rw [List.length_range] at l2
  omega
theorem Sf.tr {r u : List Nat} (hs : Sf r u) : Tr r u := by
  intro S s0 h1 h2 x hx
  have b1 : ∀ x, x < r.length → g r x < r.length := fun x hx => g_lt hs.pr hx
  have b2 : ∀ x, x < r.length → g u x < r.length := fun x hx => by have := g_lt hs.pu (i := x) (by rw [hs.eq]; exact hx); rw [hs.eq] at this; exact this
  have hri : RInv r.length (reach r u 0) := bfs_rinv b1 b2 _ _ _ ⟨by simp, by simpa using hs.pos⟩
  have hp : IsP (reach r u 0) := ⟨fun x hx => by rw [hs.all]; exact hri.lt x hx, hri.nd⟩
  have hm := mem_all hp (x := x) (by rw [hs.all]; exact hx)
  have h0 : ∀ y ∈ [0], S y ∧ y < r.length := by
    intro y hy
    obtain rfl : y = 0 := by simpa using hy
    exact ⟨s0, hs.pos⟩
  exact (bfs_ind S (fun x hx h => ⟨h1 x hx h, b1 x hx⟩) (fun x hx h => ⟨h2 x hx h, b2 x hx⟩) _ _ [0] h0 x hm).1
theorem closed_back {p : List Nat} (hp : IsP p) {S : Nat → Prop} (hS : ∀ x, x < p.length → S x → S (g p x)) {x : Nat} (hx : x < p.length) (h : S (g p x)) : S x := by
  obtain ⟨m, h1, _, h3⟩ := period hp hx
  have H : ∀ k, S (itr p k (g p x)) := by
    intro k
    induction k with
    | zero => exact h
    | succ k ih => exact hS _ (itr_lt hp k (g_lt hp hx)) ih
  have e : itr p (m - 1) (g p x) = itr p m x := by
    have := itr_add p (m - 1) 1 x
    rw [show m - 1 + 1 = m by omega] at this
    exact this.symm
  have := H (m - 1)
  rw [e, h3] at this
  exact this
theorem reach_full {r u : List Nat} (hs : Sf r u) {s : Nat} (hb : s < r.length) : RInv r.length (reach r u s) ∧ ∀ x, x < r.length → x ∈ reach r u s := by
  have b1 : ∀ x, x < r.length → g r x < r.length := fun x hx => g_lt hs.pr hx
  have b2 : ∀ x, x < r.length → g u x < r.length := fun x hx => by have := g_lt hs.pu (i := x) (by rw [hs.eq]; exact hx); rw [hs.eq] at this; exact this
  have h0 : RInv r.length [s] := ⟨by simp, by simpa using hb⟩
  have hsh := bfs_shut b1 b2 (r.length + 1) 0 [s] h0 (by simp) (by omega) (fun i hi => by omega)
  have hmem : s ∈ reach r u s := bfs_sub _ _ _ s (by simp)
  refine ⟨bfs_rinv b1 b2 _ _ _ h0, ?_⟩
  have z : (0 : Nat) ∈ reach r u s := by
    apply Classical.byContradiction
    intro hz
    refine hs.tr (fun x => x ∉ reach r u s) hz (fun x hx hn hm => ?_) (fun x hx hn hm => ?_) s hb hmem
    · exact hn (closed_back hs.pr (S := fun x => x ∈ reach r u s) (fun y _ hy => (hsh y hy).1) hx hm)
    · exact hn (closed_back hs.pu (S := fun x => x ∈ reach r u s) (fun y _ hy => (hsh y hy).2) (by rw [hs.eq]; exact hx) hm)
  exact hs.tr (fun x => x ∈ reach r u s) z (fun x _ hx => (hsh x hx).1) (fun x _ hx => (hsh x hx).2)
theorem sf_T {r u : List Nat} (hs : Sf r u) : Sf r (thn (inv r) u) := by
  have h1 : (inv r).length = u.length := by rw [inv_len, hs.eq]
  refine sf_of_tr hs.pr (isP_thn (isP_inv hs.pr) hs.pu h1) hs.le (by rw [thn_len, inv_len]) hs.pos (fun S s0 k1 k2 => hs.tr S s0 k1 (fun x hx hsx => ?_))
  have := k2 (g r x) (g_lt hs.pr hx) (k1 x hx hsx)
  rw [g_thn (by rw [inv_len]; exact g_lt hs.pr hx), g_inv (g_lt hs.pr hx), ix_g hs.pr hx] at this
  exact this
theorem sf_t {r u : List Nat} (hs : Sf r u) : Sf r (thn r u) := by
  have h1 : r.length = u.length := hs.eq.symm
  refine sf_of_tr hs.pr (isP_thn hs.pr hs.pu h1) hs.le (by rw [thn_len]) hs.pos (fun S s0 k1 k2 => hs.tr S s0 k1 (fun y hy hsy => ?_))
  have hx : ix r y < r.length := ix_lt hs.pr hy
  have e : g r (ix r y) = y := g_ix hs.pr hy
  have hsx : S (ix r y) := closed_back hs.pr (S := S) k1 hx (by rw [e]; exact hsy)
  have := k2 _ hx hsx
  rw [g_thn hx, e] at this
  exact this
theorem sf_S {r u : List Nat} (hs : Sf r u) : Sf (inv u) r := by
  have hl : (inv u).length = r.length := by rw [inv_len, hs.eq]
  refine sf_of_tr (isP_inv hs.pu) hs.pr (by rw [hl]; exact hs.le) hl.symm (by rw [hl]; exact hs.pos) (fun S s0 k1 k2 => ?_)
  rw [hl] at k1 k2 ⊢
  refine hs.tr S s0 k2 (fun x hx hsx => ?_)
  have hx' : g u x < u.length := g_lt hs.pu (by rw [hs.eq]; exact hx)
  refine closed_back (isP_inv hs.pu) (S := S) (fun y hy => k1 y (by rw [← hl]; exact hy)) (x := g u x) (by rw [inv_len]; exact hx') ?_
  rw [g_inv hx', ix_g hs.pu (by rw [hs.eq]; exact hx)]
  exact hsx
theorem sf_s {r u : List Nat} (hs : Sf r u) : Sf u (inv r) := by
  refine sf_of_tr hs.pu (isP_inv hs.pr) (by rw [hs.eq]; exact hs.le) (by rw [inv_len, hs.eq]) (by rw [hs.eq]; exact hs.pos) (fun S s0 k1 k2 => ?_)
  rw [hs.eq] at k1 k2 ⊢
  refine hs.tr S s0 (fun x hx hsx => ?_) k1
  have hx' : g r x < r.length := g_lt hs.pr hx
  refine closed_back (isP_inv hs.pr) (S := S) (fun y hy => k2 y (by rw [inv_len] at hy; exact hy)) (x := g r x) (by rw [inv_len]; exact hx') ?_
  rw [g_inv hx', ix_g hs.pr hx]
  exact hsx
end Go.Proofs.Ytoijcallajegfaa.M
end
section
/- The tests of permutations, program and reference, come to one plain test. No conditions. -/
namespace Go.Proofs.Ytoijcallajegfaa.M
set_option linter.unusedVariables false
set_option linter.unusedSimpArgs false
open Go.RowKit Go.Proofs.YtoijcallajegfaaW.PrintWords Go.Proofs.YtoijcallajegfaaW.PrintLast Go.Proofs.YtoijcallajegfaaW.PrintMore Go.Proofs.Ytoijcallajegfaa.A
theorem has_ev (l : List Int) (a : Int) (hl : l.length ≤ 1000000000) : Ev (fun k => spec_l02Has.f k l a) (decide (a ∈ l)) := by
  have H : ∀ d i : Nat, i + d = l.length → Ev (fun k => spec_l02Has.l0 k a l (l.length : Int) (i : Int)) (decide (a ∈ l.drop i)) := by
    intro d
    induction d with
    | zero =>
      intro i h
      refine ev_succ ?_
      have h1 : ¬ ((i : Int) < (l.length : Int)) := by omega
      have e : decide (a ∈ l.drop i) = false := by
        rw [List.drop_of_length_le (by omega)]
        simp
      simp only [spec_l02Has.l0, h1, if_false]
      rw [e]
      exact Ev.now _
    | succ d ih =>
      intro i h
      refine ev_succ ?_
      have hi : i < l.length := by omega
      have h1 : (i : Int) < (l.length : Int) := by omega
      have h2 : (0 : Int) ≤ (i : Int) := by omega
      have h3 := w64s i (by omega)
      have e := List.drop_eq_getElem_cons hi
      rw [← rd_get l i hi] at e
      by_cases hr : rd l (i : Int) = a
      · have e2 : decide (a ∈ l.drop i) = true := by rw [e, hr]; simp
        simp only [spec_l02Has.l0, h1, h2, hr, if_true]
        rw [e2]
        exact Ev.now _
      · have e2 : decide (a ∈ l.drop i) = decide (a ∈ l.drop (i + 1)) := by
          rw [e]
          have : ¬ a = rd l (i : Int) := fun h => hr h.symm
          simp [this]
        simp only [spec_l02Has.l0, h1, h2, h3, hr, if_true, if_false]
        rw [e2]
        exact ih (i + 1) (by omega)
  have := H l.length 0 (by omega)
  simpa [spec_l02Has.f] using this
theorem in_f (x : Int) (n : Nat) (hn : n ≤ 24) : spec_l01In.f x 0 (wrap64 ((n : Int) - 1)) = some (decide (0 ≤ x ∧ x < (n : Int))) := by
  unfold spec_l01In.f
  rw [w64 (by omega) (by omega)]
  by_cases h : x ≥ 0
  · rw [if_pos h]
    congr 1
    rw [Bool.eq_iff_iff, decide_eq_true_iff, decide_eq_true_iff]
    omega
  · rw [if_neg h]
    congr 1
    symm
    rw [decide_eq_false_iff_not]
    omega
theorem spec_permOk (l : List Int) : Ev (fun k => spec_PermOk.f k l) (permB l) := by
  unfold spec_PermOk.f
  by_cases h24 : (l.length : Int) > 24
  · simp only [h24, if_true]
    have : permB l = false := by
      unfold permB
      rw [decide_eq_false_iff_not]
      intro h
      have := h.1
      omega
    rw [this]
    exact Ev.now _
  · simp only [h24, if_false]
    have H : ∀ d i : Nat, i + d = l.length → ∃ b, Ev (fun k => spec_PermOk.l0 k l l (l.length : Int) (i : Int)) b ∧ (b = true ↔ okFrom l i) := by
      intro d
      induction d with
      | zero =>
        intro i h
        refine ⟨true, ev_succ ?_, by simp [okFrom_end l i (by omega)]⟩
        have h1 : ¬ ((i : Int) < (l.length : Int)) := by omega
        simp only [spec_PermOk.l0, h1, if_false]
        exact Ev.now _
      | succ d ih =>
        intro i h
        have hi : i < l.length := by omega
        have h1 : (i : Int) < (l.length : Int) := by omega
        have h1' : (i : Int) ≤ (l.length : Int) := by omega
        have h2 : (0 : Int) ≤ (i : Int) := by omega
        have h3 := w64s i (by omega)
        have hin := in_f (rd l (i : Int)) l.length (by omega)
        by_cases c1 : 0 ≤ rd l (i : Int) ∧ rd l (i : Int) < (l.length : Int)
        · have hh := has_ev (l.take i) (rd l (i : Int)) (by rw [List.length_take]; omega)
          by_cases c2 : rd l (i : Int) ∈ l.take i
          · refine ⟨false, ev_succ ?_, by simpa using okFrom_not hi (fun h => h.2.2 c2)⟩
            simp only [spec_PermOk.l0, h1, h1', h2, hin, c1, if_true, Option.bind_some, decide_true, Int.toNat_natCast, and_self]
            refine Ev.bind hh ?_
            simp only [c2, decide_true, if_true]
            exact Ev.now _
          · obtain ⟨b, i1, i2⟩ := ih (i + 1) (by omega)
            refine ⟨b, ev_succ ?_, by rw [i2]; exact (okFrom_step ⟨c1.1, c1.2, c2⟩).symm⟩
            simp only [spec_PermOk.l0, h1, h1', h2, h3, hin, c1, if_true, Option.bind_some, decide_true, Int.toNat_natCast, and_self]
            refine Ev.bind hh ?_
            simp only [c2, decide_false, Bool.false_eq_true, if_false]
            exact i1
        · refine ⟨false, ev_succ ?_, by simpa using okFrom_not hi (fun h => c1 ⟨h.1, h.2.1⟩)⟩
          simp only [spec_PermOk.l0, h1, h2, hin, c1, if_true, if_false, Option.bind_some, decide_false, Bool.false_eq_true]
          exact Ev.now _
    obtain ⟨b, i1, i2⟩ := H l.length 0 (by omega)
    rw [← permB_of (by omega) i2]
    exact i1
theorem rdOf_nat (s : List Bool) (x : Nat) : rdOf false s (x : Int) = s.getD x false := rfl
theorem getD_set (s : List Bool) (x y : Nat) (h : x < s.length) : (s.set x true).getD y false = if x = y then true else s.getD y false := by
  rw [List.getD_eq_getElem?_getD, List.getD_eq_getElem?_getD, List.getElem?_set]
  by_cases e : x = y
  · subst e
    simp [h]
  · simp [e]
theorem impl_permOk (l : List Int) : Ev (fun k => impl_PermOk.f k l) (permB l) := by
  unfold impl_PermOk.f
  by_cases h24 : (l.length : Int) > 24
  · simp only [h24, if_true]
    have : permB l = false := by
      unfold permB
      rw [decide_eq_false_iff_not]
      intro h
      have := h.1
      omega
    rw [this]
    exact Ev.now _
  · simp only [h24, if_false]
    have H : ∀ (d i : Nat) (s : List Bool), i + d = l.length → s.length = 24 → (∀ x : Nat, x < 24 → (s.getD x false = true ↔ (x : Int) ∈ l.take i)) → ∃ b, Ev (fun k => impl_PermOk.l0 k l s (i : Int)) b ∧ (b = true ↔ okFrom l i) := by
      intro d
      induction d with
      | zero =>
        intro i s h hs hx
        refine ⟨true, ev_succ ?_, by simp [okFrom_end l i (by omega)]⟩
        have h1 : ¬ ((i : Int) < (l.length : Int)) := by omega
        simp only [impl_PermOk.l0, h1, if_false]
        exact Ev.now _
      | succ d ih =>
        intro i s h hs hx
        have hi : i < l.length := by omega
        have h1 : (i : Int) < (l.length : Int) := by omega
        have h2 : (0 : Int) ≤ (i : Int) := by omega
        have h3 := w64s i (by omega)
        by_cases c1 : rd l (i : Int) < 0
        · refine ⟨false, ev_succ ?_, by simpa using okFrom_not hi (fun h => by omega)⟩
          simp only [impl_PermOk.l0, h1, h2, c1, if_true]
          exact Ev.now _
        · by_cases c2 : rd l (i : Int) ≥ (l.length : Int)
          · refine ⟨false, ev_succ ?_, by simpa using okFrom_not hi (fun h => by omega)⟩
            simp only [impl_PermOk.l0, h1, h2, c1, c2, if_true, if_false]
            exact Ev.now _
          · obtain ⟨x, ex⟩ : ∃ x : Nat, rd l (i : Int) = (x : Int) := ⟨(rd l (i : Int)).toNat, by omega⟩
            have hx24 : x < 24 := by omega
            by_cases c3 : s.getD x false = true
            · have hm := (hx x hx24).mp c3
              refine ⟨false, ev_succ ?_, by simpa using okFrom_not hi (fun h => h.2.2 (by rw [ex]; exact hm))⟩
              rw [ex] at c1 c2
              simp only [impl_PermOk.l0, h1, h2, ex, c1, c2, rdOf_nat, c3, if_true, if_false]
              exact Ev.now _
            · have hm : (x : Int) ∉ l.take i := fun h => c3 ((hx x hx24).mpr h)
              obtain ⟨b, i1, i2⟩ := ih (i + 1) (s.set x true) (by omega) (by rw [List.length_set]; exact hs) (fun y hy => by
                rw [getD_set s x y (by omega), take_succ l i hi, ex]
                by_cases e : x = y
                · subst e
                  simp
                · rw [if_neg e, hx y hy]
                  have : ¬ (y : Int) = (x : Int) := by omega
                  simp [this])
              refine ⟨b, ev_succ ?_, by rw [i2]; exact (okFrom_step ⟨by omega, by omega, by rw [ex]; exact hm⟩).symm⟩
              rw [ex] at c1 c2
              simp only [impl_PermOk.l0, h1, h2, h3, ex, c1, c2, rdOf_nat, c3, if_true, if_false, Int.toNat_natCast]
              exact i1
    obtain ⟨b, i1, i2⟩ := H l.length 0 (List.replicate 24 false) (by omega) rfl (fun x hx => by
      have : (List.replicate 24 false).getD x false = false := by
        rw [List.getD_eq_getElem?_getD, List.getElem?_replicate]
        simp [hx]
      rw [this]
      simp)
    rw [← permB_of (by omega) i2]
    exact i1
end Go.Proofs.Ytoijcallajegfaa.M
end
section
/- The tests of surfaces, program and reference, come to one plain test. No conditions. -/
namespace Go.Proofs.Ytoijcallajegfaa.M
set_option linter.unusedVariables false
set_option linter.unusedSimpArgs false
open Go.RowKit Go.Proofs.YtoijcallajegfaaW.PrintWords Go.Proofs.YtoijcallajegfaaW.PrintLast Go.Proofs.YtoijcallajegfaaW.PrintMore Go.Proofs.Ytoijcallajegfaa.A
theorem I_pair (a b : Nat) : ([(a : Int), (b : Int)] : List Int) = I [a, b] := rfl
theorem I_len' (l : List Nat) : ((I l).length : Int) = (l.length : Int) := by rw [I_len]
theorem st1_I (out : List Nat) (x : Nat) : I (st1 out x) = if (x : Int) ∈ I out then I out else I out ++ [(x : Int)] := by
  unfold st1
  by_cases h : x ∈ out
  · rw [if_pos h, if_pos (mem_I.mpr h)]
  · rw [if_neg h, if_neg (fun k => h (mem_I.mp k)), I_snoc]
theorem reach_one (p q out pr : List Nat) (a : Nat) (j : Nat) (hj : j < pr.length) (hp : pr.length ≤ 2) (hl : out.length ≤ 1000) (r : List Int)
    (H : Ev (fun k => spec_l02Reach.l1 k (I p) (I q) (I (st1 out (g pr j))) (a : Int) (I pr) (pr.length : Int) ((j + 1 : Nat) : Int)) r) :
    Ev (fun k => spec_l02Reach.l1 k (I p) (I q) (I out) (a : Int) (I pr) (pr.length : Int) (j : Int)) r := by
  refine ev_succ ?_
  have h1 : (j : Int) < (pr.length : Int) := by omega
  have h2 : (0 : Int) ≤ (j : Int) := by omega
  have h3 := w64s j (by omega)
  have h4 : (I out).length < 17592186044416 := by rw [I_len]; omega
  have hh := has_ev (I out) ((g pr j : Nat) : Int) (by rw [I_len]; omega)
  simp only [spec_l02Reach.l1, h1, h2, h3, h4, rdI, I_len', if_true]
  refine Ev.bind hh ?_
  rw [st1_I] at H
  by_cases hm : ((g pr j : Nat) : Int) ∈ I out
  · rw [if_pos hm] at H
    simp only [hm, decide_true, if_true]
    exact H
  · rw [if_neg hm] at H
    simp only [hm, decide_false, Bool.false_eq_true, if_false]
    exact H
theorem reach_loop {p q : List Nat} (hp : IsP p) (hq : IsP q) (hl : q.length = p.length) (h24 : p.length ≤ 24) (f : Nat) : ∀ (a : Nat) (out : List Nat), RInv p.length out → a ≤ out.length → p.length < f + a →
    Ev (fun k => spec_l02Reach.l0 k (I p) (I q) (I out) (a : Int)) (I (bfs p q f a out)) := by
  induction f with
  | zero =>
    intro a out hr ha hf
    have := hr.le
    omega
  | succ f ih =>
    intro a out hr ha hf
    have hle := hr.le
    refine ev_succ ?_
    by_cases h : a < out.length
    · have h1 : (a : Int) < (out.length : Int) := by omega
      have h2 : (0 : Int) ≤ (a : Int) := by omega
      have hx := hr.g h
      have h3 : ((g out a : Nat) : Int) < (p.length : Int) := by omega
      have h4 : (0 : Int) ≤ ((g out a : Nat) : Int) := by omega
      have h5 : ((g out a : Nat) : Int) < (q.length : Int) := by omega
      have h6 := w64s a (by omega)
      simp only [spec_l02Reach.l0, h1, h2, h3, h4, h5, rdI, I_len', if_true, Option.bind_some, I_pair]
      have r1 := hr.st (g_lt hp hx)
      have r2 := r1.st (x := g q (g out a)) (by have := g_lt hq (i := g out a) (by omega); omega)
      have hb : bfs p q (f + 1) a out = bfs p q f (a + 1) (st1 (st1 out (g p (g out a))) (g q (g out a))) := by
        rw [bfs, if_pos h]
      rw [hb]
      have i1 := ih (a + 1) _ r2 (by have := st1_len out (g p (g out a)); have := st1_len (st1 out (g p (g out a))) (g q (g out a)); omega) (by omega)
      refine reach_one p q out [g p (g out a), g q (g out a)] a 0 (by simp) (by simp) (by omega) _ ?_
      refine reach_one p q _ [g p (g out a), g q (g out a)] a 1 (by simp) (by simp) (by have := r1.le; simp only [g, List.getD_cons_zero] at this ⊢; omega) _ ?_
      refine ev_succ ?_
      have h7 : ¬ (((1 + 1 : Nat) : Int) < (([g p (g out a), g q (g out a)] : List Nat).length : Int)) := by simp
      simp only [spec_l02Reach.l1, h7, h6, if_false]
      exact i1
    · have h1 : ¬ ((a : Int) < (out.length : Int)) := by omega
      have hb : bfs p q (f + 1) a out = out := by rw [bfs, if_neg h]
      rw [hb]
      simp only [spec_l02Reach.l0, h1, I_len', if_false]
      exact Ev.now _
theorem reach_ev {p q : List Nat} (hp : IsP p) (hq : IsP q) (hl : q.length = p.length) (h24 : p.length ≤ 24) (s : Nat) (hs : s < p.length) : Ev (fun k => spec_l02Reach.f k (I p) (I q) (s : Int)) (I (reach p q s)) := by
  unfold spec_l02Reach.f reach
  exact reach_loop hp hq hl h24 (p.length + 1) 0 [s] ⟨by simp, by simpa using hs⟩ (by simp) (by omega)
theorem len_ne_false {r u : List Int} (h : r.length ≠ u.length) : surfB r u = false := by
  unfold surfB
  simp [h]
theorem surfB_mk {r u : List Int} (h1 : permB r = true) (h2 : permB u = true) (h3 : r.length = u.length) (h4 : 0 < r.length) : surfB r u = ((reach (N r) (N u) 0).length == r.length) := by
  unfold surfB
  simp [h1, h2, h3, h4]
  intro _
  omega
theorem spec_trans (r u : List Int) : Ev (fun k => spec_IsTransitive.f k r u) (surfB r u) := by
  unfold spec_IsTransitive.f
  refine Ev.bind (spec_permOk r) ?_
  by_cases h1 : permB r = true
  · simp only [h1, if_true]
    refine Ev.bind (spec_permOk u) ?_
    by_cases h2 : permB u = true
    · simp only [h2, if_true]
      by_cases h3 : (r.length : Int) = (u.length : Int)
      · have h3' : r.length = u.length := by omega
        by_cases h4 : (r.length : Int) > 0
        · have h4' : 0 < r.length := by omega
          rw [surfB_mk h1 h2 h3' h4']
          obtain ⟨p, rfl, a1, a2⟩ := PI_nat (of_decide_eq_true h1)
          obtain ⟨q, rfl, b1, b2⟩ := PI_nat (of_decide_eq_true h2)
          rw [I_len, I_len] at h3'
          rw [I_len] at h4'
          have := reach_ev a1 b1 h3'.symm a2 0 h4'
          simp only [h3, h4, if_true]
          rw [h3] at h4
          simp only [h4, if_true]
          refine Ev.bind this ?_
          rw [N_I, N_I]
          have e : (((I (reach p q 0)).length : Int) == ((I q).length : Int)) = ((reach p q 0).length == (I p).length) := by
            rw [I_len, I_len, I_len, Bool.eq_iff_iff, beq_iff_eq, beq_iff_eq]
            omega
          rw [← h3] at e
          simp only [h3] at e
          rw [← e]
          exact Ev.now _
        · simp only [h3, if_true]
          rw [h3] at h4
          simp only [h4, if_false]
          have : surfB r u = false := by
            unfold surfB
            have : ¬ 0 < r.length := by omega
            simp [this]
          rw [this]
          exact Ev.now _
      · simp only [h3, if_false]
        rw [len_ne_false (by omega)]
        exact Ev.now _
    · have h2' := Bool.eq_false_iff.mpr h2
      simp only [h2', Bool.false_eq_true, if_false]
      have : surfB r u = false := by unfold surfB; simp [h2']
      rw [this]
      exact Ev.now _
  · have h1' := Bool.eq_false_iff.mpr h1
    simp only [h1', Bool.false_eq_true, if_false]
    have : surfB r u = false := by unfold surfB; simp [h1']
    rw [this]
    exact Ev.now _
theorem spec_surf (r u : List Int) : Ev (fun k => spec_SurfaceOk.f k r u) (surfB r u) := by
  unfold spec_SurfaceOk.f
  exact Ev.bind (spec_trans r u) (Ev.now _)
def Marks (n : Nat) (s : List Bool) (out : List Nat) : Prop := s.length = n ∧ ∀ x, x < n → (s.getD x false = true ↔ x ∈ out)
theorem Marks.add {n : Nat} {s : List Bool} {out : List Nat} {x : Nat} (h : Marks n s out) (hx : x < n) : Marks n (s.set x true) (out ++ [x]) := by
  refine ⟨by rw [List.length_set]; exact h.1, fun y hy => ?_⟩
  rw [getD_set s x y (by rw [h.1]; exact hx)]
  by_cases e : x = y
  · subst e
    simp
  · rw [if_neg e, h.2 y hy]
    have : ¬ y = x := fun k => e k.symm
    simp [this]
theorem trans_one (p q out pr : List Nat) (s : List Bool) (a : Nat) (j : Nat) (hj : j < pr.length) (hp : pr.length ≤ 2) (hl : out.length ≤ 1000) (hm : Marks p.length s out) (hx : g pr j < p.length) (r : Bool)
    (H : ∀ s', Marks p.length s' (st1 out (g pr j)) → Ev (fun k => impl_IsTransitive.l1 k (I p) (I q) s' (I (st1 out (g pr j))) (a : Int) (I pr) (pr.length : Int) ((j + 1 : Nat) : Int)) r) :
    Ev (fun k => impl_IsTransitive.l1 k (I p) (I q) s (I out) (a : Int) (I pr) (pr.length : Int) (j : Int)) r := by
  refine ev_succ ?_
  have h1 : (j : Int) < (pr.length : Int) := by omega
  have h2 : (0 : Int) ≤ (j : Int) := by omega
  have h3 := w64s j (by omega)
  have h4 : (I out).length < 17592186044416 := by rw [I_len]; omega
  have h5 : (0 : Int) ≤ ((g pr j : Nat) : Int) := by omega
  have h6 : ((g pr j : Nat) : Int) < (s.length : Int) := by rw [hm.1]; omega
  simp only [impl_IsTransitive.l1, h1, h2, h3, h4, h5, h6, rdI, I_len', rdOf_nat, if_true, Int.toNat_natCast]
  by_cases hin : g pr j ∈ out
  · have hs := (hm.2 _ hx).mpr hin
    have e : st1 out (g pr j) = out := by unfold st1; rw [if_pos hin]
    have := H s (by rw [e]; exact hm)
    rw [e] at this
    simp only [hs, if_true]
    exact this
  · have hs : s.getD (g pr j) false = false := Bool.eq_false_iff.mpr (fun h => hin ((hm.2 _ hx).mp h))
    have e : st1 out (g pr j) = out ++ [g pr j] := by unfold st1; rw [if_neg hin]
    have := H (s.set (g pr j) true) (by rw [e]; exact hm.add hx)
    rw [e, ← I_snoc] at this
    simp only [hs, Bool.false_eq_true, if_false]
    exact this
theorem trans_loop {p q : List Nat} (hp : IsP p) (hq : IsP q) (hl : q.length = p.length) (h24 : p.length ≤ 24) (f : Nat) : ∀ (a : Nat) (out : List Nat) (s : List Bool), RInv p.length out → Marks p.length s out → a ≤ out.length → p.length < f + a →
    Ev (fun k => impl_IsTransitive.l0 k (I p) (I q) s (I out) (a : Int)) ((bfs p q f a out).length == p.length) := by
  induction f with
  | zero =>
    intro a out s hr hm ha hf
    have := hr.le
    omega
  | succ f ih =>
    intro a out s hr hm ha hf
    have hle := hr.le
    refine ev_succ ?_
    by_cases h : a < out.length
    · have h1 : (a : Int) < (out.length : Int) := by omega
      have h2 : (0 : Int) ≤ (a : Int) := by omega
      have hx := hr.g h
      have h3 : ((g out a : Nat) : Int) < (p.length : Int) := by omega
      have h4 : (0 : Int) ≤ ((g out a : Nat) : Int) := by omega
      have h5 : ((g out a : Nat) : Int) < (q.length : Int) := by omega
      have h6 := w64s a (by omega)
      simp only [impl_IsTransitive.l0, h1, h2, h3, h4, h5, rdI, I_len', if_true, Option.bind_some, I_pair]
      have hg1 := g_lt hp hx
      have hg2 : g q (g out a) < p.length := by have := g_lt hq (i := g out a) (by omega); omega
      have r1 := hr.st hg1
      have r2 := r1.st hg2
      have hb : bfs p q (f + 1) a out = bfs p q f (a + 1) (st1 (st1 out (g p (g out a))) (g q (g out a))) := by
        rw [bfs, if_pos h]
      rw [hb]
      refine trans_one p q out [g p (g out a), g q (g out a)] s a 0 (by simp) (by simp) (by omega) hm hg1 _ (fun s1 hm1 => ?_)
      refine trans_one p q _ [g p (g out a), g q (g out a)] s1 a 1 (by simp) (by simp) (by have := r1.le; simp only [g, List.getD_cons_zero] at this ⊢; omega) hm1 hg2 _ (fun s2 hm2 => ?_)
      refine ev_succ ?_
      have h7 : ¬ (((1 + 1 : Nat) : Int) < (([g p (g out a), g q (g out a)] : List Nat).length : Int)) := by simp
      simp only [impl_IsTransitive.l1, h7, h6, if_false]
      exact ih (a + 1) _ s2 r2 hm2 (Nat.le_trans (by omega : a + 1 ≤ out.length) (Nat.le_trans (st1_len _ _) (st1_len _ _))) (by omega)
    · have h1 : ¬ ((a : Int) < (out.length : Int)) := by omega
      have hb : bfs p q (f + 1) a out = out := by rw [bfs, if_neg h]
      rw [hb]
      simp only [impl_IsTransitive.l0, h1, I_len', if_false]
      have e : ((out.length : Int) == (p.length : Int)) = (out.length == p.length) := by
        rw [Bool.eq_iff_iff, beq_iff_eq, beq_iff_eq]
        omega
      rw [e]
      exact Ev.now _
theorem j0_true (r u : List Int) : Ev (fun k => impl_IsTransitive.j0 k r u true) false := by
  refine ev_succ ?_
  simp only [impl_IsTransitive.j0, if_true]
  exact Ev.now _
theorem impl_trans (r u : List Int) : Ev (fun k => impl_IsTransitive.f k r u) (surfB r u) := by
  unfold impl_IsTransitive.f
  refine Ev.bind (impl_permOk r) ?_
  by_cases h1 : permB r = true
  · simp only [h1, if_true]
    refine Ev.bind (impl_permOk u) ?_
    by_cases h2 : permB u = true
    · simp only [h2, if_true]
      by_cases h3 : (r.length : Int) = (u.length : Int)
      · have h3' : r.length = u.length := by omega
        simp only [h3, if_true]
        by_cases h4 : 0 < r.length
        · rw [surfB_mk h1 h2 h3' h4]
          obtain ⟨p, rfl, a1, a2⟩ := PI_nat (of_decide_eq_true h1)
          obtain ⟨q, rfl, b1, b2⟩ := PI_nat (of_decide_eq_true h2)
          rw [I_len, I_len] at h3'
          rw [I_len] at h4
          refine ev_succ ?_
          have e0 : ((q.length : Int) == 0) = false := by rw [beq_eq_false_iff_ne]; omega
          have e1 : (0 : Int) ≤ (p.length : Int) := by omega
          have e2 : ((p.length : Int)).toNat ≤ 281474976710656 := by omega
          have e3 : (0 : Int) < ((List.replicate p.length false).length : Int) := by rw [List.length_replicate]; omega
          simp only [impl_IsTransitive.j0, e0, I_len', e1, e2, Bool.false_eq_true, if_true, if_false, Option.bind_some, Int.toNat_natCast, e3]
          simp only [Int.toNat_natCast] at e2
          simp only [e2, if_true]
          rw [N_I, N_I, I_len]
          refine trans_loop a1 b1 h3'.symm a2 (p.length + 1) 0 [0] _ ⟨by simp, by simpa using h4⟩ ?_ (by simp) (by omega)
          refine ⟨by simp, fun x hx => ?_⟩
          have : (0 : Int).toNat = 0 := rfl
          rw [this, getD_set _ 0 x (by simp; omega)]
          by_cases e : 0 = x
          · subst e
            simp
          · rw [if_neg e]
            have h0 : ¬ x = 0 := fun h => e h.symm
            have : (List.replicate p.length false).getD x false = false := by
              rw [List.getD_eq_getElem?_getD, List.getElem?_replicate]
              simp [hx]
            rw [this]
            simp [h0]
        · have e0 : ((u.length : Int) == 0) = true := by rw [beq_iff_eq]; omega
          have : surfB r u = false := by unfold surfB; simp [h4]
          rw [this]
          simp only [e0]
          exact j0_true r u
      · simp only [h3, if_false]
        rw [len_ne_false (by omega)]
        exact j0_true r u
    · have h2' := Bool.eq_false_iff.mpr h2
      simp only [h2', Bool.false_eq_true, if_false]
      have : surfB r u = false := by unfold surfB; simp [h2']
      rw [this]
      exact j0_true r u
  · have h1' := Bool.eq_false_iff.mpr h1
    simp only [h1', Bool.false_eq_true, if_false]
    have : surfB r u = false := by unfold surfB; simp [h1']
    rw [this]
    exact j0_true r u
theorem impl_surf (r u : List Int) : Ev (fun k => impl_SurfaceOk.f k r u) (surfB r u) := by
  unfold impl_SurfaceOk.f
  exact Ev.bind (impl_trans r u) (Ev.now _)
end Go.Proofs.Ytoijcallajegfaa.M
end
section
/- What every law does with its arguments; inverses. No conditions. -/
namespace Go.Proofs.Ytoijcallajegfaa.M
set_option linter.unusedVariables false
set_option linter.unusedSimpArgs false
open Go.RowKit Go.Proofs.YtoijcallajegfaaW.PrintWords Go.Proofs.YtoijcallajegfaaW.PrintLast Go.Proofs.YtoijcallajegfaaW.PrintMore Go.Proofs.Ytoijcallajegfaa.A
theorem rd_set {l : List Int} {i j : Nat} {x : Int} (h : i < l.length) : rd (l.set i x) (j : Int) = if i = j then x else rd l (j : Int) := by
  unfold rd
  simp only [Int.toNat_natCast]
  rw [List.getD_eq_getElem?_getD, List.getD_eq_getElem?_getD, List.getElem?_set]
  by_cases e : i = j
  · subst e
    simp [h]
  · simp [e]
theorem ext_rd {a b : List Int} (hl : a.length = b.length) (h : ∀ i : Nat, i < a.length → rd a (i : Int) = rd b (i : Int)) : a = b := by
  apply List.ext_getElem hl
  intro i h1 h2
  rw [← rd_get a i h1, ← rd_get b i h2]
  exact h i h1
theorem sz_small {r u : List Int} (h : r.length + u.length ≤ 1048576) : laws_szSurface.f r u 1048576 = some (1048576 - (r.length : Int) - (u.length : Int)) := by
  unfold laws_szSurface.f laws_szIntS.f
  have e1 : wrap64 (1048576 - (r.length : Int)) = 1048576 - (r.length : Int) := w64 (by omega) (by omega)
  have e2 : wrap64 (1048576 - (r.length : Int) - (u.length : Int)) = 1048576 - (r.length : Int) - (u.length : Int) := w64 (by omega) (by omega)
  have c1 : ¬ (1048576 - (r.length : Int) < 0) := by omega
  have c2 : ¬ (1048576 - (r.length : Int) - (u.length : Int) < 0) := by omega
  simp only [e1, c1, if_false, Option.bind_some, e2, c2]
theorem sz_big {r u : List Int} (hr : r.length ≤ 9223372036854775807) (hu : u.length ≤ 9223372036854775807) (h : ¬ r.length + u.length ≤ 1048576) : laws_szSurface.f r u 1048576 = some (-1) := by
  unfold laws_szSurface.f laws_szIntS.f
  have e1 : wrap64 (1048576 - (r.length : Int)) = 1048576 - (r.length : Int) := w64 (by omega) (by omega)
  by_cases c1 : 1048576 - (r.length : Int) < 0
  · have c3 : (-1 : Int) < 0 := by omega
    simp only [e1, c1, if_true, Option.bind_some, c3]
  · have e2 : wrap64 (1048576 - (r.length : Int) - (u.length : Int)) = 1048576 - (r.length : Int) - (u.length : Int) := w64 (by omega) (by omega)
    have c2 : 1048576 - (r.length : Int) - (u.length : Int) < 0 := by omega
    have c3 : (-1 : Int) < 0 := by omega
    simp only [e1, c1, if_false, Option.bind_some, e2, c2, if_true, c3]
theorem toInts_ev (l : List Int) (h : l.length ≤ 1048576) : Ev (fun k => laws_toIntS.f k l) l := by
  unfold laws_toIntS.f
  have h1 : (0 : Int) ≤ (l.length : Int) := by omega
  have h2 : ((l.length : Int)).toNat ≤ 35184372088832 := by omega
  simp only [h1, h2, if_true]
  have H : ∀ (d i : Nat) (c : List Int), i + d = l.length → c.length = l.length → (∀ j : Nat, j < i → rd c (j : Int) = rd l (j : Int)) → Ev (fun k => laws_toIntS.l0 k l c (i : Int)) l := by
    intro d
    induction d with
    | zero =>
      intro i c h hc hx
      refine ev_succ ?_
      have h1 : ¬ ((i : Int) < (l.length : Int)) := by omega
      have e : c = l := ext_rd hc (fun j hj => hx j (by omega))
      simp only [laws_toIntS.l0, h1, if_false]
      rw [e]
      exact Ev.now _
    | succ d ih =>
      intro i c h hc hx
      refine ev_succ ?_
      have h1 : (i : Int) < (l.length : Int) := by omega
      have h2 : (0 : Int) ≤ (i : Int) := by omega
      have h3 : (i : Int) < (c.length : Int) := by omega
      have h4 := w64s i (by omega)
      simp only [laws_toIntS.l0, h1, h2, h3, h4, if_true, Int.toNat_natCast]
      refine ih (i + 1) _ (by omega) (by rw [List.length_set]; exact hc) (fun j hj => ?_)
      rw [rd_set (by omega)]
      by_cases e : i = j
      · subst e
        simp
      · rw [if_neg e]
        exact hx j (by omega)
  exact H l.length 0 _ (by omega) (by rw [List.length_replicate]; omega) (fun j hj => by omega)
theorem toSurf_ev (r u : List Int) (hr : r.length ≤ 1048576) (hu : u.length ≤ 1048576) : Ev (fun k => laws_toSurface.f k r u) (r, u) := by
  unfold laws_toSurface.f
  exact Ev.bind (toInts_ev r hr) (Ev.bind (toInts_ev u hu) (Ev.now _))
theorem eqInts_ev (a b : List Int) (ha : a.length ≤ 9000000000000000000) : Ev (fun k => laws_eqIntS.f k a b) (decide (a = b)) := by
  unfold laws_eqIntS.f
  by_cases hl : (a.length : Int) = (b.length : Int)
  · simp only [hl, if_true]
    have hl' : a.length = b.length := by omega
    have H : ∀ d i : Nat, i + d = a.length → ∃ c, Ev (fun k => laws_eqIntS.l0 k a b (i : Int)) c ∧ (c = true ↔ ∀ j : Nat, i ≤ j → j < a.length → rd a (j : Int) = rd b (j : Int)) := by
      intro d
      induction d with
      | zero =>
        intro i h
        refine ⟨true, ev_succ ?_, by simp; intro j h1 h2; omega⟩
        have h1 : ¬ ((i : Int) < (a.length : Int)) := by omega
        simp only [laws_eqIntS.l0, h1, if_false]
        exact Ev.now _
      | succ d ih =>
        intro i h
        have h1 : (i : Int) < (a.length : Int) := by omega
        have h2 : (0 : Int) ≤ (i : Int) := by omega
        have h3 : (i : Int) < (b.length : Int) := by omega
        have h4 := w64s i (by omega)
        by_cases c : rd a (i : Int) = rd b (i : Int)
        · obtain ⟨c', i1, i2⟩ := ih (i + 1) (by omega)
          refine ⟨c', ev_succ ?_, by
            rw [i2]
            constructor
            · intro k j j1 j2
              by_cases e : j = i
              · subst e; exact c
              · exact k j (by omega) j2
            · intro k j j1 j2
              exact k j (by omega) j2⟩
          simp only [laws_eqIntS.l0, h1, h2, h3, h4, c, if_true]
          exact i1
        · refine ⟨false, ev_succ ?_, by
            simp only [Bool.false_eq_true, false_iff]
            intro k
            exact c (k i (Nat.le_refl _) (by omega))⟩
          simp only [laws_eqIntS.l0, h1, h2, h3, c, if_true, if_false]
          exact Ev.now _
    obtain ⟨c, i1, i2⟩ := H a.length 0 (by omega)
    have : decide (a = b) = c := by
      rw [Bool.eq_iff_iff, i2, decide_eq_true_iff]
      constructor
      · intro e j _ _
        rw [e]
      · intro k
        exact ext_rd hl' (fun j hj => k j (Nat.zero_le _) hj)
    rw [this]
    exact i1
  · simp only [hl, if_false]
    have : decide (a = b) = false := by
      rw [decide_eq_false_iff_not]
      intro e
      exact hl (by rw [e])
    rw [this]
    exact Ev.now _
theorem eqInts_same (a : List Int) (ha : a.length ≤ 9000000000000000000) : Ev (fun k => laws_eqIntS.f k a a) true := by
  have := eqInts_ev a a ha
  simpa using this
theorem eqSurf_same (r u : List Int) (hr : r.length ≤ 9000000000000000000) (hu : u.length ≤ 9000000000000000000) : Ev (fun k => laws_eqSurface.f k r u r u) true := by
  unfold laws_eqSurface.f
  refine Ev.bind (eqInts_same r hr) ?_
  simp only [if_true]
  refine Ev.bind (eqInts_same u hu) ?_
  simp only [if_true]
  exact Ev.now _
theorem inv_of {p c : List Nat} (hp : IsP p) (hc : c.length = p.length) (h : ∀ j, j < p.length → g c (g p j) = j) : c = inv p := by
  refine ext_g (by rw [inv_len, hc]) (fun x hx => ?_)
  rw [hc] at hx
  rw [g_inv hx]
  have := h (ix p x) (ix_lt hp hx)
  rw [g_ix hp hx] at this
  exact this
theorem inv_step {p c : List Nat} (hp : IsP p) {i : Nat} (hi : i < p.length) (hc : c.length = p.length) (h : ∀ j, j < i → g c (g p j) = j) : ∀ j, j < i + 1 → g (c.set (g p i) i) (g p j) = j := by
  intro j hj
  rw [g_set (by rw [hc]; exact g_lt hp hi)]
  by_cases e : j = i
  · subst e
    simp
  · rw [if_neg (fun k => e (g_inj hp (by omega) hi k.symm))]
    exact h j (by omega)
theorem spec_inv {p : List Nat} (hp : IsP p) (h24 : p.length ≤ 24) : Ev (fun k => spec_l02Inverse.f k (I p)) (I (inv p)) := by
  unfold spec_l02Inverse.f
  have H : ∀ (d i : Nat) (c : List Nat), i + d = p.length → c.length = p.length → (∀ j, j < i → g c (g p j) = j) → Ev (fun k => spec_l02Inverse.l0 k (I c) (I p) (p.length : Int) (i : Int)) (I (inv p)) := by
    intro d
    induction d with
    | zero =>
      intro i c h hc hx
      refine ev_succ ?_
      have h1 : ¬ ((i : Int) < (p.length : Int)) := by omega
      rw [← inv_of hp hc (fun j hj => hx j (by omega))]
      simp only [spec_l02Inverse.l0, h1, if_false]
      exact Ev.now _
    | succ d ih =>
      intro i c h hc hx
      refine ev_succ ?_
      have hi : i < p.length := by omega
      have h1 : (i : Int) < (p.length : Int) := by omega
      have h2 : (0 : Int) ≤ (i : Int) := by omega
      have h3 := w64s i (by omega)
      have h4 : (0 : Int) ≤ ((g p i : Nat) : Int) := by omega
      have h5 : ((g p i : Nat) : Int) < (c.length : Int) := by have := g_lt hp hi; omega
      simp only [spec_l02Inverse.l0, h1, h2, h3, h4, h5, rdI, I_len', I_set, if_true, Int.toNat_natCast]
      exact ih (i + 1) _ (by omega) (by rw [List.length_set]; exact hc) (inv_step hp hi hc hx)
  have h1 : (0 : Int) ≤ (p.length : Int) := by omega
  have h2 : p.length ≤ 35184372088832 := by omega
  simp only [I_len', h1, h2, if_true, Int.toNat_natCast]
  have := H p.length 0 (List.replicate p.length 0) (by omega) (by simp) (fun j hj => by omega)
  rw [I_rep] at this
  exact this
theorem impl_inv {p : List Nat} (hp : IsP p) (h24 : p.length ≤ 24) : Ev (fun k => impl_InversePerm.f k (I p)) (I (inv p)) := by
  unfold impl_InversePerm.f
  have H : ∀ (d i : Nat) (c : List Nat), i + d = p.length → c.length = p.length → (∀ j, j < i → g c (g p j) = j) → Ev (fun k => impl_InversePerm.l0 k (I c) (I p) (p.length : Int) (i : Int)) (I (inv p)) := by
    intro d
    induction d with
    | zero =>
      intro i c h hc hx
      refine ev_succ ?_
      have h1 : ¬ ((i : Int) < (p.length : Int)) := by omega
      rw [← inv_of hp hc (fun j hj => hx j (by omega))]
      simp only [impl_InversePerm.l0, h1, if_false]
      exact Ev.now _
    | succ d ih =>
      intro i c h hc hx
      refine ev_succ ?_
      have hi : i < p.length := by omega
      have h1 : (i : Int) < (p.length : Int) := by omega
      have h2 : (0 : Int) ≤ (i : Int) := by omega
      have h3 := w64s i (by omega)
      have h4 : (0 : Int) ≤ ((g p i : Nat) : Int) := by omega
      have h5 : ((g p i : Nat) : Int) < (c.length : Int) := by have := g_lt hp hi; omega
      simp only [impl_InversePerm.l0, h1, h2, h3, h4, h5, rdI, I_len', I_set, if_true, Int.toNat_natCast]
      exact ih (i + 1) _ (by omega) (by rw [List.length_set]; exact hc) (inv_step hp hi hc hx)
  refine Ev.bind (impl_permOk (I p)) ?_
  have h0 : permB (I p) = true := permB_I.mpr ⟨hp, h24⟩
  have h1 : (0 : Int) ≤ (p.length : Int) := by omega
  have h2 : p.length ≤ 35184372088832 := by omega
  simp only [h0, I_len', h1, h2, if_true, Int.toNat_natCast]
  have := H p.length 0 (List.replicate p.length 0) (by omega) (by simp) (fun j hj => by omega)
  rw [I_rep] at this
  exact this
end Go.Proofs.Ytoijcallajegfaa.M
end
section
/- Names from a square, and renaming: the program and the reference act alike. No conditions. -/
namespace Go.Proofs.Ytoijcallajegfaa.M
set_option linter.unusedVariables false
set_option linter.unusedSimpArgs false
open Go.RowKit Go.Proofs.YtoijcallajegfaaW.PrintWords Go.Proofs.YtoijcallajegfaaW.PrintLast Go.Proofs.YtoijcallajegfaaW.PrintMore Go.Proofs.Ytoijcallajegfaa.A
theorem set_mid5 {α : Type} (p : List α) (x y : α) (xs : List α) : (p ++ x :: xs).set p.length y = p ++ y :: xs := by
  induction p with
  | nil => rfl
  | cons a p ih => simp [ih]
theorem isP_reach {r u : List Nat} (hs : Sf r u) {s : Nat} (h : s < r.length) : IsP (reach r u s) ∧ (reach r u s).length = r.length := by
  obtain ⟨h1, h2⟩ := reach_full hs h
  have l1 := h1.le
  have l2 := nodup_sub_len5 (List.range r.length) (reach r u s) List.nodup_range (fun x hx => h2 x (List.mem_range.mp hx))
  rw [List.length_range] at l2
  have hl : (reach r u s).length = r.length := by omega
  exact ⟨⟨fun x hx => by rw [hl]; exact h1.lt x hx, h1.nd⟩, hl⟩
def nm (r u : List Nat) (s : Nat) : List Nat := inv (reach r u s)
theorem isP_nm {r u : List Nat} (hs : Sf r u) {s : Nat} (h : s < r.length) : IsP (nm r u s) ∧ (nm r u s).length = r.length := by
  obtain ⟨h1, h2⟩ := isP_reach hs h
  exact ⟨isP_inv h1, by unfold nm; rw [inv_len, h2]⟩
theorem ren_of {p q c : List Nat} (hq : IsP q) (hl : q.length = p.length) (hc : c.length = p.length) (h : ∀ j, j < p.length → g c (g q j) = g q (g p j)) : c = ren p q := by
  refine ext_g (by rw [ren_len, hc]) (fun x hx => ?_)
  rw [hc] at hx
  rw [g_ren hx]
  have hx' : ix q x < q.length := ix_lt hq (by omega)
  have := h (ix q x) (by omega)
  rw [g_ix hq (by omega)] at this
  exact this
theorem ren_step {p q c : List Nat} (hq : IsP q) (hl : q.length = p.length) {i : Nat} (hi : i < p.length) (hc : c.length = p.length) (h : ∀ j, j < i → g c (g q j) = g q (g p j)) : ∀ j, j < i + 1 → g (c.set (g q i) (g q (g p i))) (g q j) = g q (g p j) := by
  intro j hj
  have hlt : g q i < c.length := by rw [hc, ← hl]; exact g_lt hq (by omega)
  rw [g_set hlt]
  by_cases e : j = i
  · subst e
    simp
  · rw [if_neg (fun k => e (g_inj hq (by omega) (by omega) k.symm))]
    exact h j (by omega)
theorem spec_ren {p q : List Nat} (hp : IsP p) (hq : IsP q) (hl : q.length = p.length) (h24 : p.length ≤ 24) : Ev (fun k => spec_l02Rename.f k (I p) (I q)) (I (ren p q)) := by
  unfold spec_l02Rename.f
  have H : ∀ (d i : Nat) (c : List Nat), i + d = p.length → c.length = p.length → (∀ j, j < i → g c (g q j) = g q (g p j)) → Ev (fun k => spec_l02Rename.l0 k (I q) (I c) (I p) (p.length : Int) (i : Int)) (I (ren p q)) := by
    intro d
    induction d with
    | zero =>
      intro i c h hc hx
      refine ev_succ ?_
      have h1 : ¬ ((i : Int) < (p.length : Int)) := by omega
      rw [← ren_of hq hl hc (fun j hj => hx j (by omega))]
      simp only [spec_l02Rename.l0, h1, if_false]
      exact Ev.now _
    | succ d ih =>
      intro i c h hc hx
      refine ev_succ ?_
      have hi : i < p.length := by omega
      have k1 := g_lt hp hi
      have k2 := g_lt hq (i := i) (by omega)
      have h1 : (i : Int) < (p.length : Int) := by omega
      have h2 : (0 : Int) ≤ (i : Int) := by omega
      have h4 : (i : Int) < (q.length : Int) := by omega
      have h5 : (0 : Int) ≤ ((g p i : Nat) : Int) := by omega
      have h6 : ((g p i : Nat) : Int) < (q.length : Int) := by omega
      have h7 : (0 : Int) ≤ ((g q i : Nat) : Int) := by omega
      have h8 : ((g q i : Nat) : Int) < (c.length : Int) := by omega
      have h3 := w64s i (by omega)
      simp only [spec_l02Rename.l0, h1, h2, h3, h4, h5, h6, h7, h8, rdI, I_len', I_set, if_true, Int.toNat_natCast]
      exact ih (i + 1) _ (by omega) (by rw [List.length_set]; exact hc) (ren_step hq hl hi hc hx)
  have h1 : (0 : Int) ≤ (p.length : Int) := by omega
  have h2 : p.length ≤ 35184372088832 := by omega
  simp only [I_len', h1, h2, if_true, Int.toNat_natCast]
  have := H p.length 0 (List.replicate p.length 0) (by omega) (by simp) (fun j hj => by omega)
  rw [I_rep] at this
  exact this
theorem impl_ren {p q : List Nat} (hp : IsP p) (hq : IsP q) (hl : q.length = p.length) (h24 : p.length ≤ 24) : Ev (fun k => impl_RenamePerm.f k (I p) (I q)) (I (ren p q)) := by
  unfold impl_RenamePerm.f
  have H : ∀ (d i : Nat) (c : List Nat), i + d = p.length → c.length = p.length → (∀ j, j < i → g c (g q j) = g q (g p j)) → Ev (fun k => impl_RenamePerm.l0 k (I q) (I c) (I p) (p.length : Int) (i : Int)) (I (ren p q)) := by
    intro d
    induction d with
    | zero =>
      intro i c h hc hx
      refine ev_succ ?_
      have h1 : ¬ ((i : Int) < (p.length : Int)) := by omega
      rw [← ren_of hq hl hc (fun j hj => hx j (by omega))]
      simp only [impl_RenamePerm.l0, h1, if_false]
      exact Ev.now _
    | succ d ih =>
      intro i c h hc hx
      refine ev_succ ?_
      have hi : i < p.length := by omega
      have k1 := g_lt hp hi
      have k2 := g_lt hq (i := i) (by omega)
      have h1 : (i : Int) < (p.length : Int) := by omega
      have h2 : (0 : Int) ≤ (i : Int) := by omega
      have h4 : (i : Int) < (q.length : Int) := by omega
      have h5 : (0 : Int) ≤ ((g p i : Nat) : Int) := by omega
      have h6 : ((g p i : Nat) : Int) < (q.length : Int) := by omega
      have h7 : (0 : Int) ≤ ((g q i : Nat) : Int) := by omega
      have h8 : ((g q i : Nat) : Int) < (c.length : Int) := by omega
      have h3 := w64s i (by omega)
      simp only [impl_RenamePerm.l0, h1, h2, h3, h4, h5, h6, h7, h8, rdI, I_len', I_set, if_true, Int.toNat_natCast]
      exact ih (i + 1) _ (by omega) (by rw [List.length_set]; exact hc) (ren_step hq hl hi hc hx)
  have b1 : permB (I p) = true := permB_I.mpr ⟨hp, h24⟩
  have b2 : permB (I q) = true := permB_I.mpr ⟨hq, by omega⟩
  refine Ev.bind (impl_permOk _) ?_
  simp only [b1, if_true]
  refine Ev.bind (impl_permOk _) ?_
  have e : ((p.length : Int) != (q.length : Int)) = false := by rw [bne_eq_false_iff_eq]; omega
  simp only [b2, I_len', e, if_true]
  refine ev_succ ?_
  have h1 : (0 : Int) ≤ (p.length : Int) := by omega
  have h2 : p.length ≤ 35184372088832 := by omega
  simp only [impl_RenamePerm.j0, I_len', h1, h2, Bool.false_eq_true, if_false, if_true, Int.toNat_natCast]
  have := H p.length 0 (List.replicate p.length 0) (by omega) (by simp) (fun j hj => by omega)
  rw [I_rep] at this
  exact this
def rnS (r u q : List Nat) : List Nat × List Nat := (ren r q, ren u q)
theorem spec_renS {r u q : List Nat} (hs : Sf r u) (hq : IsP q) (hl : q.length = r.length) : Ev (fun k => spec_l03Rename.f k (I r) (I u) (I q)) (I (rnS r u q).1, I (rnS r u q).2) := by
  unfold spec_l03Rename.f
  exact Ev.bind (spec_ren hs.pr hq hl hs.le) (Ev.bind (spec_ren hs.pu hq (by rw [hl, hs.eq]) (by rw [hs.eq]; exact hs.le)) (Ev.now _))
theorem impl_renS {r u q : List Nat} (hs : Sf r u) (hq : IsP q) (hl : q.length = r.length) : Ev (fun k => impl_RenameSurface.f k (I r) (I u) (I q)) (I (rnS r u q).1, I (rnS r u q).2, true) := by
  unfold impl_RenameSurface.f
  have h0 := surfB_I.mpr hs
  have hle := hs.le
  have b2 : permB (I q) = true := permB_I.mpr ⟨hq, by omega⟩
  refine Ev.bind (impl_surf _ _) ?_
  simp only [h0, if_true]
  refine Ev.bind (impl_permOk _) ?_
  have e : ((q.length : Int) != (r.length : Int)) = false := by rw [bne_eq_false_iff_eq]; omega
  simp only [b2, I_len', e, if_true]
  refine ev_succ ?_
  simp only [impl_RenameSurface.j0, Bool.false_eq_true, if_false]
  exact Ev.bind (impl_ren hs.pr hq hl hs.le) (Ev.bind (impl_ren hs.pu hq (by rw [hl, hs.eq]) (by rw [hs.eq]; exact hs.le)) (Ev.now _))
theorem spec_names {r u : List Nat} (hs : Sf r u) {s : Nat} (h : s < r.length) : Ev (fun k => spec_l03Names.f k (I r) (I u) (s : Int)) (I (nm r u s)) := by
  obtain ⟨h1, h2⟩ := isP_reach hs h
  unfold spec_l03Names.f
  exact Ev.bind (reach_ev hs.pr hs.pu hs.eq hs.le s h) (Ev.bind (spec_inv h1 (by rw [h2]; exact hs.le)) (Ev.now _))
def nmP (n : Nat) (out : List Nat) : List Int := (List.range n).map (fun x => if x ∈ out then ((out.idxOf x : Nat) : Int) else -1)
theorem nmP_len (n : Nat) (out : List Nat) : (nmP n out).length = n := by simp [nmP]
theorem rd_nmP {n : Nat} {out : List Nat} {x : Nat} (h : x < n) : rd (nmP n out) (x : Int) = if x ∈ out then ((out.idxOf x : Nat) : Int) else -1 := by
  rw [rd_get _ _ (by rw [nmP_len]; exact h)]
  simp [nmP]
theorem nmP_add {n : Nat} {out : List Nat} {x : Nat} (h : x < n) (hn : x ∉ out) : (nmP n out).set x (out.length : Int) = nmP n (out ++ [x]) := by
  refine ext_rd (by rw [List.length_set, nmP_len, nmP_len]) (fun i hi => ?_)
  rw [List.length_set, nmP_len] at hi
  rw [rd_set (by rw [nmP_len]; exact h), rd_nmP hi, rd_nmP hi]
  by_cases e : x = i
  · subst e
    have : x ∈ out ++ [x] := by simp
    rw [if_pos rfl, if_pos this, List.idxOf_append, if_neg hn]
    simp
  · rw [if_neg e]
    by_cases hm : i ∈ out
    · have : i ∈ out ++ [x] := by simp [hm]
      rw [if_pos hm, if_pos this, List.idxOf_append, if_pos hm]
    · have : i ∉ out ++ [x] := by simp [hm]; omega
      rw [if_neg hm, if_neg this]
theorem nmP_full {n : Nat} {out : List Nat} (hl : out.length = n) (h : ∀ x, x < n → x ∈ out) : nmP n out = I (inv out) := by
  refine ext_rd (by rw [nmP_len, I_len, inv_len, hl]) (fun i hi => ?_)
  rw [nmP_len] at hi
  rw [rd_nmP hi, if_pos (h i hi), rdI, g_inv (by omega)]
  rfl
theorem names_one {p q : List Nat} {out pr : List Nat} (a j : Nat) (hj : j < pr.length) (hpr : pr.length ≤ 2) (hl : out.length ≤ 1000) (hx : g pr j < p.length) (res : List Int)
    (H : Ev (fun k => impl_NamesFrom.l2 k (nmP p.length (st1 out (g pr j))) (I (st1 out (g pr j))) (a : Int) (I pr) (pr.length : Int) ((j + 1 : Nat) : Int) (I p) (I q)) res) :
    Ev (fun k => impl_NamesFrom.l2 k (nmP p.length out) (I out) (a : Int) (I pr) (pr.length : Int) (j : Int) (I p) (I q)) res := by
  refine ev_succ ?_
  have h1 : (j : Int) < (pr.length : Int) := by omega
  have h2 : (0 : Int) ≤ (j : Int) := by omega
  have h4 : (I out).length < 17592186044416 := by rw [I_len]; omega
  have h5 : (0 : Int) ≤ ((g pr j : Nat) : Int) := by omega
  have h6 : ((g pr j : Nat) : Int) < ((nmP p.length out).length : Int) := by rw [nmP_len]; omega
  have h7 : rd (nmP p.length out) ((g pr j : Nat) : Int) = if g pr j ∈ out then ((out.idxOf (g pr j) : Nat) : Int) else -1 := rd_nmP hx
  have h3 := w64s j (by omega)
  by_cases hin : g pr j ∈ out
  · have e : st1 out (g pr j) = out := by unfold st1; rw [if_pos hin]
    rw [e] at H
    rw [if_pos hin] at h7
    have h8 : ¬ (((out.idxOf (g pr j) : Nat) : Int) < 0) := by omega
    simp only [impl_NamesFrom.l2, h1, h2, h3, h5, h6, h7, h8, rdI, I_len', if_true, if_false]
    exact H
  · have e : st1 out (g pr j) = out ++ [g pr j] := by unfold st1; rw [if_neg hin]
    rw [e, ← nmP_add hx hin, ← I_snoc] at H
    rw [if_neg hin] at h7
    have h8 : (-1 : Int) < 0 := by omega
    simp only [impl_NamesFrom.l2, h1, h2, h3, h4, h5, h6, h7, h8, rdI, I_len', if_true, Int.toNat_natCast]
    exact H
theorem names_loop {p q : List Nat} (hp : IsP p) (hq : IsP q) (hl : q.length = p.length) (h24 : p.length ≤ 24) (f : Nat) : ∀ (a : Nat) (out : List Nat), RInv p.length out → a ≤ out.length → p.length < f + a →
    Ev (fun k => impl_NamesFrom.l1 k (nmP p.length out) (I out) (a : Int) (I p) (I q)) (nmP p.length (bfs p q f a out)) := by
  induction f with
  | zero =>
    intro a out hr ha hf
    have := hr.le
    omega
  | succ f ih =>
    intro a out hr ha hf
    have hle := hr.le
    refine ev_succ ?_
    by_cases h : a < out.length
    · have hx := hr.g h
      have hg1 := g_lt hp hx
      have hg2 : g q (g out a) < p.length := by have := g_lt hq (i := g out a) (by omega); omega
      have r1 := hr.st hg1
      have r2 := r1.st hg2
      have h1 : (a : Int) < (out.length : Int) := by omega
      have h2 : (0 : Int) ≤ (a : Int) := by omega
      have h3 : ((g out a : Nat) : Int) < (p.length : Int) := by omega
      have h4 : (0 : Int) ≤ ((g out a : Nat) : Int) := by omega
      have h5 : ((g out a : Nat) : Int) < (q.length : Int) := by omega
      have hb : bfs p q (f + 1) a out = bfs p q f (a + 1) (st1 (st1 out (g p (g out a))) (g q (g out a))) := by
        rw [bfs, if_pos h]
      rw [hb]
      have key := ih (a + 1) _ r2 (Nat.le_trans (by omega : a + 1 ≤ out.length) (Nat.le_trans (st1_len _ _) (st1_len _ _))) (by omega)
      have hq1 : a ≤ 9000000000000000000 := by omega
      have l1 := r1.le
      simp only [impl_NamesFrom.l1, h1, h2, h3, h4, h5, rdI, I_len', if_true, Option.bind_some, I_pair]
      refine names_one (q := q) a 0 (by simp) (by simp) (by omega) hg1 _ ?_
      refine names_one (q := q) a 1 (by simp) (by simp) (by simp only [g, List.getD_cons_zero] at l1 ⊢; omega) hg2 _ ?_
      refine ev_succ ?_
      have h7 : ¬ (((1 + 1 : Nat) : Int) < (([g p (g out a), g q (g out a)] : List Nat).length : Int)) := by simp
      have h6 := w64s a hq1
      simp only [impl_NamesFrom.l2, h7, h6, if_false]
      exact key
    · have h1 : ¬ ((a : Int) < (out.length : Int)) := by omega
      have hb : bfs p q (f + 1) a out = out := by rw [bfs, if_neg h]
      rw [hb]
      simp only [impl_NamesFrom.l1, h1, I_len', if_false]
      exact Ev.now _
theorem impl_names {r u : List Nat} (hs : Sf r u) {s : Nat} (h : s < r.length) : Ev (fun k => impl_NamesFrom.f k (I r) (I u) (s : Int)) (I (nm r u s)) := by
  have hle := hs.le
  have h0 := surfB_I.mpr hs
  obtain ⟨k1, k2⟩ := reach_full hs h
  obtain ⟨_, k3⟩ := isP_reach hs h
  have fin := names_loop hs.pr hs.pu hs.eq hs.le (r.length + 1) 0 [s] ⟨by simp, by simpa using h⟩ (by simp) (by omega)
  have e1 : bfs r u (r.length + 1) 0 [s] = reach r u s := rfl
  rw [e1, nmP_full k3 k2] at fin
  have H : ∀ d i : Nat, i + d = r.length → Ev (fun k => impl_NamesFrom.l0 k (s : Int) (List.replicate i (-1) ++ List.replicate d 0) (r.length : Int) (i : Int) (I r) (I u)) (I (nm r u s)) := by
    intro d
    induction d with
    | zero =>
      intro i hi
      obtain rfl : i = r.length := by omega
      refine ev_succ ?_
      have c1 : ¬ ((r.length : Int) < (r.length : Int)) := by omega
      have c2 : (0 : Int) ≤ (s : Int) := by omega
      have c3 : (s : Int) < (((List.replicate r.length (-1) ++ List.replicate 0 0 : List Int)).length : Int) := by simp; omega
      have c4 : (List.replicate r.length (-1) ++ List.replicate 0 0 : List Int).set ((s : Int)).toNat 0 = nmP r.length [s] := by
        refine ext_rd (by rw [List.length_set, nmP_len]; simp) (fun i hi => ?_)
        rw [List.length_set] at hi
        have hi' : i < r.length := by simpa using hi
        rw [Int.toNat_natCast, rd_set (by simp; exact h), rd_nmP hi']
        by_cases e : s = i
        · subst e
          simp
        · rw [if_neg e]
          have : i ∉ [s] := by simp; omega
          rw [if_neg this, rd_get _ _ hi]
          simp
      simp only [impl_NamesFrom.l0, c1, c2, c3, c4, if_true, if_false]
      exact fin
    | succ d ih =>
      intro i hi
      refine ev_succ ?_
      have c1 : (i : Int) < (r.length : Int) := by omega
      have c2 : (0 : Int) ≤ (i : Int) := by omega
      have c3 : (i : Int) < (((List.replicate i (-1) ++ List.replicate (d + 1) 0 : List Int)).length : Int) := by simp; omega
      have c4 : (List.replicate i (-1) ++ List.replicate (d + 1) 0 : List Int).set ((i : Int)).toNat (-1) = List.replicate (i + 1) (-1) ++ List.replicate d 0 := by
        have hm := set_mid5 (List.replicate i (-1 : Int)) 0 (-1) (List.replicate d 0)
        rw [List.length_replicate] at hm
        rw [Int.toNat_natCast, List.replicate_succ, hm, List.replicate_succ', List.append_assoc]
        rfl
      have c5 := w64s i (by omega)
      simp only [impl_NamesFrom.l0, c1, c2, c3, c4, c5, if_true]
      exact ih (i + 1) (by omega)
  unfold impl_NamesFrom.f
  refine Ev.bind (impl_surf _ _) ?_
  have n1 : ¬ ((s : Int) < 0) := by omega
  have n2 : decide ((s : Int) ≥ (r.length : Int)) = false := by rw [decide_eq_false_iff_not]; omega
  simp only [h0, n1, n2, I_len', if_true, if_false]
  refine ev_succ ?_
  have z1 : (0 : Int) ≤ (r.length : Int) := by omega
  have z2 : r.length ≤ 35184372088832 := by omega
  simp only [impl_NamesFrom.j0, Bool.false_eq_true, I_len', z1, z2, if_true, if_false, Int.toNat_natCast, Option.bind_some, List.length_replicate]
  have := H r.length 0 (Nat.zero_add _)
  simpa using this
end Go.Proofs.Ytoijcallajegfaa.M
end
section
/- The canonical form: the program and the reference find the same one. No conditions. -/
namespace Go.Proofs.Ytoijcallajegfaa.M
set_option linter.unusedVariables false
set_option linter.unusedSimpArgs false
open Go.RowKit Go.Proofs.YtoijcallajegfaaW.PrintWords Go.Proofs.YtoijcallajegfaaW.PrintLast Go.Proofs.YtoijcallajegfaaW.PrintMore Go.Proofs.Ytoijcallajegfaa.A
def lexC : List Nat → List Nat → Int
  | [], [] => 0
  | [], _ :: _ => -1
  | _ :: _, [] => 1
  | a :: l, b :: m => if a < b then -1 else if b < a then 1 else lexC l m
theorem cmp_ev (a b : Nat) : cmp_Compare_int.f (a : Int) (b : Int) = some (if a < b then -1 else if b < a then 1 else 0) := by
  unfold cmp_Compare_int.f cmp_isNaN_int.f
  simp only [bne_self_eq_false, Option.bind_some, Bool.false_eq_true, if_false]
  by_cases h1 : a < b
  · have : (a : Int) < (b : Int) := by omega
    simp only [h1, this, if_true]
  · have n1 : ¬ (a : Int) < (b : Int) := by omega
    by_cases h2 : b < a
    · have : (a : Int) > (b : Int) := by omega
      simp only [h1, n1, h2, this, if_true, if_false]
    · have n2 : ¬ (a : Int) > (b : Int) := by omega
      simp only [h1, n1, h2, n2, if_false]
theorem lexC_eq : ∀ (a b : List Nat), lexC a b = 0 ↔ a = b := by
  intro a
  induction a with
  | nil => intro b; cases b <;> simp [lexC]
  | cons x a ih =>
    intro b
    cases b with
    | nil => simp [lexC]
    | cons y b =>
      unfold lexC
      by_cases h1 : x < y
      · simp [h1]; omega
      · by_cases h2 : y < x
        · simp [h1, h2]; omega
        · have e : x = y := by omega
          subst e
          simp [h1, ih]
theorem compare_ev (a b : List Nat) (hl : a.length ≤ 1000000) : Ev (fun k => slices_Compare_int_int.f k (I a) (I b)) (lexC a b) := by
  unfold slices_Compare_int_int.f
  have H : ∀ d i : Nat, i + d = a.length → i ≤ b.length → Ev (fun k => slices_Compare_int_int.l0 k (I a) (I b) (I a) (a.length : Int) (i : Int)) (lexC (a.drop i) (b.drop i)) := by
    intro d
    induction d with
    | zero =>
      intro i hi hb
      refine ev_succ ?_
      have c1 : ¬ ((i : Int) < (a.length : Int)) := by omega
      rw [List.drop_of_length_le (l := a) (by omega)]
      simp only [slices_Compare_int_int.l0, c1, I_len', if_false]
      by_cases h : (a.length : Int) < (b.length : Int)
      · have : lexC [] (b.drop i) = -1 := by
          rw [List.drop_eq_getElem_cons (by omega)]
          rfl
        simp only [h, if_true, this]
        exact Ev.now _
      · have : lexC [] (b.drop i) = 0 := by
          rw [List.drop_of_length_le (by omega)]
          rfl
        simp only [h, if_false, this]
        exact Ev.now _
    | succ d ih =>
      intro i hi hb
      have hia : i < a.length := by omega
      rw [List.drop_eq_getElem_cons hia, ← g_get hia]
      have c1 : (i : Int) < (a.length : Int) := by omega
      have c2 : (0 : Int) ≤ (i : Int) := by omega
      have c3 := w64s i (by omega)
      refine ev_succ ?_
      by_cases h : i < b.length
      · rw [List.drop_eq_getElem_cons h, ← g_get h]
        have n1 : ¬ ((i : Int) ≥ (b.length : Int)) := by omega
        have n2 : (i : Int) < (b.length : Int) := by omega
        simp only [slices_Compare_int_int.l0, c1, c2, c3, n1, n2, I_len', rdI, cmp_ev, Option.bind_some, if_true, if_false]
        unfold lexC
        by_cases h1 : g a i < g b i
        · have z : ¬ ((-1 : Int) = 0) := by omega
          simp only [h1, z, if_true, if_false]
          exact Ev.now _
        · by_cases h2 : g b i < g a i
          · have z : ¬ ((1 : Int) = 0) := by omega
            simp only [h1, h2, z, if_true, if_false]
            exact Ev.now _
          · simp only [h1, h2, if_true, if_false]
            exact ih (i + 1) (by omega) (by omega)
      · have n1 : (i : Int) ≥ (b.length : Int) := by omega
        rw [List.drop_of_length_le (l := b) (by omega)]
        simp only [slices_Compare_int_int.l0, c1, c2, n1, I_len', if_true]
        exact Ev.now _
  have key := H a.length 0 (Nat.zero_add _) (Nat.zero_le _)
  rw [List.drop_zero, List.drop_zero] at key
  simp only [I_len']
  exact key
theorem less_ev (a b : List Nat) (hl : a.length ≤ 1000000) (he : b.length = a.length) : Ev (fun k => spec_l03Less.f k (I a) (I b)) (decide (lexC a b < 0)) := by
  unfold spec_l03Less.f
  have H : ∀ d i : Nat, i + d = a.length → Ev (fun k => spec_l03Less.l0 k (I b) (I a) (a.length : Int) (i : Int)) (decide (lexC (a.drop i) (b.drop i) < 0)) := by
    intro d
    induction d with
    | zero =>
      intro i hi
      refine ev_succ ?_
      have c1 : ¬ ((i : Int) < (a.length : Int)) := by omega
      rw [List.drop_of_length_le (l := a) (by omega), List.drop_of_length_le (l := b) (by omega)]
      simp only [spec_l03Less.l0, c1, if_false]
      exact Ev.now _
    | succ d ih =>
      intro i hi
      have hia : i < a.length := by omega
      have hib : i < b.length := by omega
      rw [List.drop_eq_getElem_cons hia, ← g_get hia, List.drop_eq_getElem_cons hib, ← g_get hib]
      have c1 : (i : Int) < (a.length : Int) := by omega
      have c2 : (0 : Int) ≤ (i : Int) := by omega
      have n2 : (i : Int) < (b.length : Int) := by omega
      have c3 := w64s i (by omega)
      refine ev_succ ?_
      simp only [spec_l03Less.l0, c1, c2, c3, n2, I_len', rdI, if_true]
      unfold lexC
      by_cases h1 : g a i < g b i
      · have z1 : ¬ (((g a i : Nat) : Int) = ((g b i : Nat) : Int)) := by omega
        have z2 : decide (((g a i : Nat) : Int) < ((g b i : Nat) : Int)) = true := by rw [decide_eq_true_iff]; omega
        have z3 : decide ((-1 : Int) < 0) = true := by decide
        simp only [h1, z1, z2, z3, if_true, if_false]
        exact Ev.now _
      · by_cases h2 : g b i < g a i
        · have z1 : ¬ (((g a i : Nat) : Int) = ((g b i : Nat) : Int)) := by omega
          have z2 : decide (((g a i : Nat) : Int) < ((g b i : Nat) : Int)) = false := by rw [decide_eq_false_iff_not]; omega
          have z3 : decide ((1 : Int) < 0) = false := by decide
          simp only [h1, h2, z1, z2, z3, if_true, if_false]
          exact Ev.now _
        · have z1 : ((g a i : Nat) : Int) = ((g b i : Nat) : Int) := by omega
          simp only [h1, h2, z1, if_true, if_false]
          exact ih (i + 1) (by omega)
  have key := H a.length 0 (Nat.zero_add _)
  rw [List.drop_zero, List.drop_zero] at key
  simp only [I_len']
  exact key
def cmpS (a b : List Nat × List Nat) : Int := if lexC a.1 b.1 = 0 then lexC a.2 b.2 else lexC a.1 b.1
theorem impl_cmpS (a b : List Nat × List Nat) (h1 : a.1.length ≤ 1000000) (h2 : a.2.length ≤ 1000000) : Ev (fun k => impl_compareSurfaces.f k (I a.1) (I a.2) (I b.1) (I b.2)) (cmpS a b) := by
  unfold impl_compareSurfaces.f cmpS
  refine Ev.bind (compare_ev a.1 b.1 h1) ?_
  by_cases h : lexC a.1 b.1 = 0
  · simp only [h, if_true]
    exact Ev.bind (compare_ev a.2 b.2 h2) (Ev.now _)
  · simp only [h, if_false]
    exact Ev.now _
theorem sameList_nat (a b : List Nat) (h : a.length ≤ 1000000000) : Ev (fun k => spec_SameList.f k (I a) (I b)) (decide (a = b)) := by
  unfold spec_SameList.f
  by_cases hl : (a.length : Int) = (b.length : Int)
  · have hl' : a.length = b.length := by omega
    simp only [I_len', hl, ne_eq, not_true_eq_false, if_false, if_true]
    have H : ∀ d i : Nat, i + d = a.length → Ev (fun k => spec_SameList.l0 k (I b) (I a) (b.length : Int) (i : Int)) (decide (a.drop i = b.drop i)) := by
      intro d
      induction d with
      | zero =>
        intro i hi
        refine ev_succ ?_
        have c1 : ¬ ((i : Int) < (b.length : Int)) := by omega
        have e : decide (a.drop i = b.drop i) = true := by rw [List.drop_of_length_le (by omega), List.drop_of_length_le (by omega)]; simp
        simp only [spec_SameList.l0, c1, if_false, e]
        exact Ev.now _
      | succ d ih =>
        intro i hi
        have hia : i < a.length := by omega
        have hib : i < b.length := by omega
        rw [List.drop_eq_getElem_cons hia, ← g_get hia, List.drop_eq_getElem_cons hib, ← g_get hib]
        have c1 : (i : Int) < (b.length : Int) := by omega
        have c2 : (0 : Int) ≤ (i : Int) := by omega
        have c4 : (i : Int) < (a.length : Int) := by omega
        have c3 := w64s i (by omega)
        refine ev_succ ?_
        by_cases he : g a i = g b i
        · have z : ((g a i : Nat) : Int) = ((g b i : Nat) : Int) := by omega
          have e : decide (g a i :: a.drop (i + 1) = g b i :: b.drop (i + 1)) = decide (a.drop (i + 1) = b.drop (i + 1)) := by simp [he]
          rw [e]
          simp only [spec_SameList.l0, c1, c2, c3, c4, I_len', rdI, z, if_true]
          exact ih (i + 1) (by omega)
        · have z : ¬ (((g a i : Nat) : Int) = ((g b i : Nat) : Int)) := by omega
          have e : decide (g a i :: a.drop (i + 1) = g b i :: b.drop (i + 1)) = false := by simp [he]
          rw [e]
          simp only [spec_SameList.l0, c1, c2, c4, I_len', rdI, z, if_true, if_false]
          exact Ev.now _
    have key := H a.length 0 (Nat.zero_add _)
    rw [List.drop_zero, List.drop_zero] at key
    exact key
  · have e : decide (a = b) = false := by
      rw [decide_eq_false_iff_not]
      intro e
      rw [e] at hl
      exact hl rfl
    simp only [I_len', hl, ne_eq, not_false_eq_true, if_true, if_false, e]
    exact Ev.now _
theorem spec_before (a b : List Nat × List Nat) (h1 : a.1.length ≤ 1000000) (h2 : a.2.length ≤ 1000000) (e1 : b.1.length = a.1.length) (e2 : b.2.length = a.2.length) : Ev (fun k => spec_l03Before.f k (I a.1) (I a.2) (I b.1) (I b.2)) (decide (cmpS a b < 0)) := by
  unfold spec_l03Before.f cmpS
  refine Ev.bind (sameList_nat a.1 b.1 (by omega)) ?_
  by_cases h : a.1 = b.1
  · have z := (lexC_eq a.1 b.1).mpr h
    rw [z]
    simp only [h, decide_true, if_true]
    exact Ev.bind (less_ev a.2 b.2 h2 e2) (Ev.now _)
  · have z : ¬ lexC a.1 b.1 = 0 := fun k => h ((lexC_eq _ _).mp k)
    simp only [h, z, decide_false, Bool.false_eq_true, if_false]
    exact Ev.bind (less_ev a.1 b.1 h1 e1) (Ev.now _)
def rS (r u : List Nat) (s : Nat) : List Nat × List Nat := rnS r u (nm r u s)
theorem rS_len {r u : List Nat} (s : Nat) : (rS r u s).1.length = r.length ∧ (rS r u s).2.length = u.length := ⟨ren_len _ _, ren_len _ _⟩
def canK (r u : List Nat) : Nat → List Nat × List Nat
  | 0 => rS r u 0
  | k + 1 => if cmpS (rS r u (k + 1)) (canK r u k) < 0 then rS r u (k + 1) else canK r u k
theorem canK_len {r u : List Nat} (k : Nat) : (canK r u k).1.length = r.length ∧ (canK r u k).2.length = u.length := by
  induction k with
  | zero => exact rS_len 0
  | succ k ih =>
    unfold canK
    split
    · exact rS_len _
    · exact ih
def canS (r u : List Nat) : List Nat × List Nat := canK r u (r.length - 1)
theorem spec_canon {r u : List Nat} (hs : Sf r u) : Ev (fun k => spec_l03Canon.f k (I r) (I u)) (I (canS r u).1, I (canS r u).2) := by
  have hle := hs.le
  have heq := hs.eq
  have hpos := hs.pos
  unfold spec_l03Canon.f
  have e0 := spec_names hs hpos
  have q0 := isP_nm hs hpos
  refine Ev.bind e0 (Ev.bind (spec_renS hs q0.1 q0.2) ?_)
  have H : ∀ d i : Nat, i + 1 + d = r.length → Ev (fun k => spec_l03Canon.l0 k ((i + 1 : Nat) : Int) (I r) (I u) (I (canK r u i).1) (I (canK r u i).2)) (I (canS r u).1, I (canS r u).2) := by
    intro d
    induction d with
    | zero =>
      intro i hi
      refine ev_succ ?_
      have c1 : ¬ (((i + 1 : Nat) : Int) < (r.length : Int)) := by omega
      have e : canS r u = canK r u i := by
        unfold canS
        congr 1
        omega
      rw [e]
      simp only [spec_l03Canon.l0, c1, I_len', if_false]
      exact Ev.now _
    | succ d ih =>
      intro i hi
      have hi1 : i + 1 < r.length := by omega
      have q1 := isP_nm hs hi1
      have c1 : ((i + 1 : Nat) : Int) < (r.length : Int) := by omega
      have c3 := w64s (i + 1) (by omega)
      have lk := canK_len (r := r) (u := u) i
      have lr := rS_len (r := r) (u := u) (i + 1)
      refine ev_succ ?_
      simp only [spec_l03Canon.l0, c1, c3, I_len', if_true]
      refine Ev.bind (spec_names hs hi1) (Ev.bind (spec_renS hs q1.1 q1.2) ?_)
      refine Ev.bind (spec_before (rS r u (i + 1)) (canK r u i) (by rw [lr.1]; omega) (by rw [lr.2]; omega) (by rw [lr.1, lk.1]) (by rw [lr.2, lk.2])) ?_
      have key := ih (i + 1) (by omega)
      unfold canK at key
      by_cases h : cmpS (rS r u (i + 1)) (canK r u i) < 0
      · rw [if_pos h] at key
        simp only [h, decide_true, if_true]
        exact key
      · rw [if_neg h] at key
        simp only [h, decide_false, Bool.false_eq_true, if_false]
        exact key
  have key := H (r.length - 1) 0 (by omega)
  exact key
def namedL (r u : List Nat) (n : Nat) : List S33 := (List.range n).map (fun s => (⟨I (rS r u s).1, I (rS r u s).2⟩ : S33))
theorem namedL_len (r u : List Nat) (n : Nat) : (namedL r u n).length = n := by simp [namedL]
theorem rd_named {r u : List Nat} {n i : Nat} (h : i < n) : rd_T33 (namedL r u n) (i : Int) = ⟨I (rS r u i).1, I (rS r u i).2⟩ := by
  unfold rd_T33 namedL
  simp [List.getD_eq_getElem?_getD, h]
theorem count_sq {r u : List Nat} (hs : Sf r u) : Ev (fun k => impl_CountSquares.f k (I r) (I u)) (r.length : Int) := by
  unfold impl_CountSquares.f
  refine Ev.bind (impl_surf _ _) ?_
  have h0 := surfB_I.mpr hs
  simp only [h0, I_len', if_true]
  exact Ev.now _
theorem impl_named {r u : List Nat} (hs : Sf r u) : Ev (fun k => impl_namedFrom.f k (I r) (I u)) (namedL r u r.length) := by
  have hle := hs.le
  unfold impl_namedFrom.f
  have H : ∀ d i : Nat, i + d = r.length → Ev (fun k => impl_namedFrom.l0 k (namedL r u i) (i : Int) (I r) (I u)) (namedL r u r.length) := by
    intro d
    induction d with
    | zero =>
      intro i hi
      obtain rfl : i = r.length := by omega
      refine ev_succ ?_
      simp only [impl_namedFrom.l0]
      refine Ev.bind (count_sq hs) ?_
      have c1 : ¬ ((r.length : Int) < (r.length : Int)) := by omega
      simp only [c1, if_false]
      exact Ev.now _
    | succ d ih =>
      intro i hi
      have hil : i < r.length := by omega
      have q1 := isP_nm hs hil
      refine ev_succ ?_
      simp only [impl_namedFrom.l0]
      refine Ev.bind (count_sq hs) ?_
      have c1 : (i : Int) < (r.length : Int) := by omega
      have c2 : (namedL r u i).length < 2932031007402 := by rw [namedL_len]; omega
      have c3 := w64s i (by omega)
      simp only [c1, if_true]
      refine Ev.bind (impl_names hs hil) (Ev.bind (impl_renS hs q1.1 q1.2) ?_)
      have e : namedL r u i ++ [(⟨I (rnS r u (nm r u i)).1, I (rnS r u (nm r u i)).2⟩ : S33)] = namedL r u (i + 1) := by
        unfold namedL
        rw [List.range_succ, List.map_append]
        rfl
      simp only [c2, c3, e, if_true]
      exact ih (i + 1) (by omega)
  exact H r.length 0 (Nat.zero_add _)
theorem impl_canon {r u : List Nat} (hs : Sf r u) : Ev (fun k => impl_CanonOf.f k (I r) (I u)) (I (canS r u).1, I (canS r u).2, true) := by
  have hle := hs.le
  have heq := hs.eq
  have hpos := hs.pos
  unfold impl_CanonOf.f
  refine Ev.bind (impl_named hs) ?_
  have c0 : ¬ ((r.length : Int) = 0) := by omega
  simp only [namedL_len, c0, if_false]
  refine Ev.bind (a := (I (canS r u).1, I (canS r u).2)) ?_ (Ev.now _)
  unfold impl_Surface_59.f
  have c1 : ¬ ((r.length : Int) < 1) := by omega
  have c2 : (0 : Int) < (r.length : Int) := by omega
  have e0 : rd_T33 (namedL r u r.length) 0 = ⟨I (canK r u 0).1, I (canK r u 0).2⟩ := rd_named hpos
  simp only [namedL_len, c1, c2, e0, if_true, if_false]
  have H : ∀ d i : Nat, i + 1 + d = r.length → Ev (fun k => impl_Surface_59.l0 k (namedL r u r.length) ((i + 1 : Nat) : Int) (I (canK r u i).1) (I (canK r u i).2)) (I (canS r u).1, I (canS r u).2) := by
    intro d
    induction d with
    | zero =>
      intro i hi
      refine ev_succ ?_
      have c1 : ¬ (((i + 1 : Nat) : Int) < (r.length : Int)) := by omega
      have e : canS r u = canK r u i := by
        unfold canS
        congr 1
        omega
      rw [e]
      simp only [impl_Surface_59.l0, c1, namedL_len, if_false]
      exact Ev.now _
    | succ d ih =>
      intro i hi
      have hi1 : i + 1 < r.length := by omega
      have c1 : ((i + 1 : Nat) : Int) < (r.length : Int) := by omega
      have c2 : (0 : Int) ≤ ((i + 1 : Nat) : Int) := by omega
      have c4 : rd_T33 (namedL r u r.length) ((i + 1 : Nat) : Int) = ⟨I (rS r u (i + 1)).1, I (rS r u (i + 1)).2⟩ := rd_named hi1
      have c3 := w64s (i + 1) (by omega)
      have lr := rS_len (r := r) (u := u) (i + 1)
      refine ev_succ ?_
      simp only [impl_Surface_59.l0, c1, c2, c3, c4, namedL_len, if_true]
      refine Ev.bind (impl_cmpS (rS r u (i + 1)) (canK r u i) (by rw [lr.1]; omega) (by rw [lr.2]; omega)) ?_
      have key := ih (i + 1) (by omega)
      unfold canK at key
      by_cases h : cmpS (rS r u (i + 1)) (canK r u i) < 0
      · rw [if_pos h] at key
        simp only [h, if_true]
        exact key
      · rw [if_neg h] at key
        simp only [h, if_false]
        exact key
  exact H (r.length - 1) 0 (by omega)
end Go.Proofs.Ytoijcallajegfaa.M
end
section
/- One round about a corner; first places in lists. No conditions. -/
namespace Go.Proofs.Ytoijcallajegfaa.M
set_option linter.unusedVariables false
set_option linter.unusedSimpArgs false
open Go.RowKit Go.Proofs.YtoijcallajegfaaW.PrintWords Go.Proofs.YtoijcallajegfaaW.PrintLast Go.Proofs.YtoijcallajegfaaW.PrintMore Go.Proofs.Ytoijcallajegfaa.A
theorem impl_then {p q : List Nat} (hp : IsP p) (hq : IsP q) (hl : p.length = q.length) (h24 : p.length ≤ 24) : Ev (fun k => impl_ThenPerm.f k (I p) (I q)) (I (thn p q)) := by
  unfold impl_ThenPerm.f
  refine Ev.bind (impl_permOk (I p)) ?_
  have e1 : permB (I p) = true := permB_I.mpr ⟨hp, h24⟩
  have e2 : permB (I q) = true := permB_I.mpr ⟨hq, by omega⟩
  simp only [e1, if_true]
  refine Ev.bind (impl_permOk (I q)) ?_
  have e3 : ((p.length : Int) != (q.length : Int)) = false := by simp [hl]
  simp only [e2, if_true, I_len', e3]
  refine ev_succ ?_
  have h1 : (0 : Int) ≤ (p.length : Int) := by omega
  have h2 : p.length ≤ 35184372088832 := by omega
  simp only [impl_ThenPerm.j0, Bool.false_eq_true, if_false, I_len', h1, h2, if_true, Int.toNat_natCast]
  have H : ∀ (d i : Nat) (c : List Nat), i + d = p.length → c.length = p.length → (∀ j, j < i → g c j = g q (g p j)) → Ev (fun k => impl_ThenPerm.l0 k (I q) (I c) (I p) (p.length : Int) (i : Int)) (I (thn p q)) := by
    intro d
    induction d with
    | zero =>
      intro i c h hc hx
      refine ev_succ ?_
      have h1 : ¬ ((i : Int) < (p.length : Int)) := by omega
      have e : thn p q = c := by
        refine (eq_tab hc (fun j hj => hx j (by omega))).symm
      simp only [impl_ThenPerm.l0, h1, if_false]
      rw [e]
      exact Ev.now _
    | succ d ih =>
      intro i c h hc hx
      refine ev_succ ?_
      have hi : i < p.length := by omega
      have gp := g_lt hp hi
      have c1 : (i : Int) < (p.length : Int) := by omega
      have c2 : (0 : Int) ≤ (i : Int) := by omega
      have c3 : (0 : Int) ≤ ((g p i : Nat) : Int) := by omega
      have c4 : ((g p i : Nat) : Int) < (q.length : Int) := by omega
      have c5 : (i : Int) < (c.length : Int) := by omega
      have h3 := w64s i (by omega)
      simp only [impl_ThenPerm.l0, c1, c2, c3, c4, c5, h3, rdI, I_len', I_set, if_true, Int.toNat_natCast]
      refine ih (i + 1) _ (by omega) (by rw [List.length_set]; exact hc) (fun j hj => ?_)
      rw [g_set (by omega)]
      by_cases e : i = j
      · subst e
        simp
      · rw [if_neg e]
        exact hx j (by omega)
  have := H p.length 0 (List.replicate p.length 0) (by omega) (by simp) (fun j hj => by omega)
  rw [I_rep] at this
  exact this
end Go.Proofs.Ytoijcallajegfaa.M
end
section
/- Slopes and paths: the program and the reference answer alike. No conditions. -/
namespace Go.Proofs.Ytoijcallajegfaa.M
set_option linter.unusedVariables false
set_option linter.unusedSimpArgs false
open Go.RowKit Go.Proofs.YtoijcallajegfaaW.PrintWords Go.Proofs.YtoijcallajegfaaW.PrintLast Go.Proofs.YtoijcallajegfaaW.PrintMore Go.Proofs.Ytoijcallajegfaa.A
theorem tab_snoc (i : Nat) (f : Nat → Nat) : tab i f ++ [f i] = tab (i + 1) f := by unfold tab; rw [List.range_succ]; simp
theorem spec_then {p q : List Nat} (hp : ∀ i, i < p.length → g p i < q.length) (h : p.length ≤ 1000) : Ev (fun k => spec_l02Then.f k (I p) (I q)) (I (thn p q)) := by
  unfold spec_l02Then.f
  have H : ∀ d i : Nat, i + d = p.length → Ev (fun k => spec_l02Then.l0 k (I q) (I (tab i (fun i => g q (g p i)))) (I p) (p.length : Int) (i : Int)) (I (thn p q)) := by
    intro d
    induction d with
    | zero =>
      intro i h
      obtain rfl : i = p.length := by omega
      refine ev_succ ?_
      have h1 : ¬ ((p.length : Int) < (p.length : Int)) := by omega
      simp only [spec_l02Then.l0, h1, if_false]
      exact Ev.now _
    | succ d ih =>
      intro i h
      have hi : i < p.length := by omega
      have hg := hp i hi
      refine ev_succ ?_
      have h1 : (i : Int) < (p.length : Int) := by omega
      have h2 := w64s i (by omega)
      have h3 : (I (tab i (fun i => g q (g p i)))).length < 17592186044416 := by rw [I_len, tab_len]; omega
      have h4 : (0 : Int) ≤ (i : Int) := by omega
      have h5 : (0 : Int) ≤ ((g p i : Nat) : Int) := by omega
      have h6 : ((g p i : Nat) : Int) < (q.length : Int) := by omega
      have e := tab_snoc i (fun i => g q (g p i))
      simp only [spec_l02Then.l0, h1, h2, h3, h4, h5, h6, rdI, I_len', if_true, I_snoc, e]
      exact ih (i + 1) (by omega)
  have := H p.length 0 (by omega)
  simp only [I_len']
  exact this
end Go.Proofs.Ytoijcallajegfaa.M
end
section
/- Words of letters: the program and the reference act alike. No conditions. -/
namespace Go.Proofs.Ytoijcallajegfaa.M
set_option linter.unusedVariables false
set_option linter.unusedSimpArgs false
open Go.RowKit Go.Proofs.YtoijcallajegfaaW.PrintWords Go.Proofs.YtoijcallajegfaaW.PrintLast Go.Proofs.YtoijcallajegfaaW.PrintMore Go.Proofs.Ytoijcallajegfaa.A
def lt (c : Int) (s : List Nat × List Nat) : List Nat × List Nat := if c = 84 then (s.1, thn (inv s.1) s.2) else if c = 116 then (s.1, thn s.1 s.2) else if c = 83 then (inv s.2, s.1) else (s.2, inv s.1)
theorem sf_lt {s : List Nat × List Nat} (hs : Sf s.1 s.2) (c : Int) : Sf (lt c s).1 (lt c s).2 ∧ (lt c s).1.length = s.1.length := by
  unfold lt
  split
  · exact ⟨sf_T hs, rfl⟩
  · split
    · exact ⟨sf_t hs, rfl⟩
    · split
      · exact ⟨sf_S hs, by show (inv s.2).length = _; rw [inv_len, hs.eq]⟩
      · exact ⟨sf_s hs, hs.eq⟩
def rn (w : ByteArray) (s : List Nat × List Nat) : Nat → List Nat × List Nat
  | 0 => s
  | j + 1 => lt (bt w (j : Int)) (rn w s j)
theorem sf_rn {s : List Nat × List Nat} (hs : Sf s.1 s.2) (w : ByteArray) (j : Nat) : Sf (rn w s j).1 (rn w s j).2 ∧ (rn w s j).1.length = s.1.length := by
  induction j with
  | zero => exact ⟨hs, rfl⟩
  | succ j ih =>
    have := sf_lt ih.1 (bt w (j : Int))
    exact ⟨this.1, this.2.trans ih.2⟩
theorem thn_small {r u : List Nat} (hs : Sf r u) : (∀ i, i < (inv r).length → g (inv r) i < u.length) ∧ (∀ i, i < r.length → g r i < u.length) := by
  constructor
  · intro i hi
    have := g_lt (isP_inv hs.pr) hi
    rw [inv_len] at this
    rw [hs.eq]
    exact this
  · intro i hi
    rw [hs.eq]
    exact g_lt hs.pr hi
theorem spec_letter {s : List Nat × List Nat} (hs : Sf s.1 s.2) (c : Int) : Ev (fun k => spec_l05Letter.f k (I s.1) (I s.2) c) (I (lt c s).1, I (lt c s).2) := by
  have hle := hs.le
  have heq := hs.eq
  have c1 : ([] : List Int).length + (I s.1).length < 17592186044416 := by rw [I_len]; simp; omega
  have c2 : ([] : List Int).length + (I s.2).length < 17592186044416 := by rw [I_len]; simp; omega
  obtain ⟨t1, t2⟩ := thn_small hs
  unfold spec_l05Letter.f lt
  by_cases h1 : c = 84
  · simp only [h1, if_true]
    refine Ev.bind (a := (I s.1, I (thn (inv s.1) s.2))) ?_ (Ev.now _)
    unfold spec_l05Shear.f
    simp only [Option.bind_some, c1, if_true, List.nil_append]
    exact Ev.bind (spec_inv hs.pr hs.le) (Ev.bind (spec_then t1 (by rw [inv_len]; omega)) (Ev.now _))
  · by_cases h2 : c = 116
    · have n1 : ¬ ((116 : Int) = 84) := by omega
      simp only [h2, n1, if_true, if_false]
      refine Ev.bind (a := (I s.1, I (thn s.1 s.2))) ?_ (Ev.now _)
      unfold spec_l05Unshear.f
      simp only [Option.bind_some, c1, if_true, List.nil_append]
      exact Ev.bind (spec_then t2 (by omega)) (Ev.now _)
    · by_cases h3 : c = 83
      · have n1 : ¬ ((83 : Int) = 84) := by omega
        have n2 : ¬ ((83 : Int) = 116) := by omega
        simp only [h3, n1, n2, if_true, if_false]
        refine Ev.bind (a := (I (inv s.2), I s.1)) ?_ (Ev.now _)
        unfold spec_l05Turn.f
        refine Ev.bind (spec_inv hs.pu (by omega)) ?_
        simp only [Option.bind_some, c1, if_true, List.nil_append]
        exact Ev.now _
      · simp only [h1, h2, h3, if_false]
        refine Ev.bind (a := (I s.2, I (inv s.1))) ?_ (Ev.now _)
        unfold spec_l05Unturn.f
        simp only [Option.bind_some, c2, if_true, List.nil_append]
        exact Ev.bind (spec_inv hs.pr hs.le) (Ev.now _)
theorem spec_run {s : List Nat × List Nat} (hs : Sf s.1 s.2) (w : ByteArray) (hw : w.size ≤ 1000) : Ev (fun k => spec_l05Run.f k (I s.1) (I s.2) w) (I (rn w s w.size).1, I (rn w s w.size).2) := by
  have hle := hs.le
  have heq := hs.eq
  have c1 : ([] : List Int).length + (I s.1).length < 17592186044416 := by rw [I_len]; simp; omega
  have c2 : ([] : List Int).length + (I s.2).length < 17592186044416 := by rw [I_len]; simp; omega
  unfold spec_l05Run.f
  simp only [Option.bind_some, c1, c2, if_true, List.nil_append]
  have H : ∀ d j : Nat, j + d = w.size → Ev (fun k => spec_l05Run.l0 k w (j : Int) (I (rn w s j).1) (I (rn w s j).2)) (I (rn w s w.size).1, I (rn w s w.size).2) := by
    intro d
    induction d with
    | zero =>
      intro j hj
      obtain rfl : j = w.size := by omega
      refine ev_succ ?_
      have c1 : ¬ ((w.size : Int) < (w.size : Int)) := by omega
      simp only [spec_l05Run.l0, c1, if_false]
      exact Ev.now _
    | succ d ih =>
      intro j hj
      refine ev_succ ?_
      have c1 : (j : Int) < (w.size : Int) := by omega
      have c2 : (0 : Int) ≤ (j : Int) := by omega
      have c3 := w64s j (by omega)
      simp only [spec_l05Run.l0, c1, c2, c3, if_true]
      exact Ev.bind (spec_letter (sf_rn hs w j).1 _) (ih (j + 1) (by omega))
  exact H w.size 0 (Nat.zero_add _)
def letB (c : Int) : Bool := decide (c = 84 ∨ c = 116 ∨ c = 83 ∨ c = 115)
theorem idx_tab : ∀ n : Fin 256, decide (Lib.indexByte [84, 116, 83, 115] n.val.toUInt8 < 0) = !letB (n.val : Int) := by decide +kernel
theorem idx_ev {c : Int} (h0 : 0 ≤ c) (h1 : c ≤ 255) : ∃ i, strings_IndexByte.f (⟨#[84, 116, 83, 115]⟩ : ByteArray) c = some i ∧ decide (i < 0) = !letB c := by
  obtain ⟨n, rfl⟩ : ∃ n : Nat, c = n := ⟨c.toNat, by omega⟩
  refine ⟨_, rfl, ?_⟩
  exact idx_tab ⟨n, by omega⟩
def wordB (w : ByteArray) : Bool := decide ((∀ j, j < w.size → letB (bt w (j : Int)) = true) ∧ w.size ≤ 40)
theorem impl_wordOk (w : ByteArray) (hw : w.size ≤ 9000000000000000000) : Ev (fun k => impl_WordOk.f k w) (wordB w) := by
  unfold impl_WordOk.f
  have H : ∀ d j : Nat, j + d = w.size → (∀ i, i < j → letB (bt w (i : Int)) = true) → Ev (fun k => impl_WordOk.l0 k w (j : Int)) (wordB w) := by
    intro d
    induction d with
    | zero =>
      intro j hj hl
      obtain rfl : j = w.size := by omega
      refine ev_succ ?_
      have c1 : ¬ ((w.size : Int) < (w.size : Int)) := by omega
      have e : decide ((w.size : Int) ≤ 40) = wordB w := by
        unfold wordB
        rw [decide_eq_decide]
        constructor
        · intro h
          exact ⟨hl, by omega⟩
        · intro h
          have := h.2
          omega
      simp only [impl_WordOk.l0, c1, if_false, e]
      exact Ev.now _
    | succ d ih =>
      intro j hj hl
      obtain ⟨b0, b1⟩ := bt_range w (j : Int)
      obtain ⟨i, e, hi⟩ := idx_ev b0 b1
      refine ev_succ ?_
      have c1 : (j : Int) < (w.size : Int) := by omega
      have c2 : (0 : Int) ≤ (j : Int) := by omega
      have c3 := w64s j (by omega)
      simp only [impl_WordOk.l0, c1, c2, c3, e, if_true, Option.bind_some]
      by_cases hb : letB (bt w (j : Int)) = true
      · have c4 : ¬ i < 0 := by
          rw [hb] at hi
          exact of_decide_eq_false hi
        simp only [c4, if_false]
        exact ih (j + 1) (by omega) (fun q hq => by
          by_cases e : q = j
          · rw [e]; exact hb
          · exact hl q (by omega))
      · have hb' := Bool.eq_false_iff.mpr hb
        have c4 : i < 0 := by
          rw [hb'] at hi
          exact of_decide_eq_true hi
        have e2 : wordB w = false := by
          unfold wordB
          rw [decide_eq_false_iff_not]
          intro h
          exact hb (h.1 j (by omega))
        simp only [c4, if_true, e2]
        exact Ev.now _
  exact H w.size 0 (Nat.zero_add _) (fun i hi => by omega)
theorem copy_ev (l : List Int) (h : l.length ≤ 1000000) : impl_copyInts.f l = some l := by
  unfold impl_copyInts.f
  have c1 : ([] : List Int).length + l.length < 17592186044416 := by simp; omega
  simp only [Option.bind_some, c1, if_true, List.nil_append]
theorem impl_letter {s : List Nat × List Nat} (hs : Sf s.1 s.2) (c : Int) (hc : letB c = true) : Ev (fun k => impl_letterSurface.f k (I s.1) (I s.2) c) (I (lt c s).1, I (lt c s).2) := by
  have hle := hs.le
  have heq := hs.eq
  have h0 := surfB_I.mpr hs
  have k1 := copy_ev (I s.1) (by rw [I_len]; omega)
  have k2 := copy_ev (I s.2) (by rw [I_len]; omega)
  have hc := of_decide_eq_true hc
  unfold impl_letterSurface.f lt
  by_cases h1 : c = 84
  · simp only [h1, if_true]
    refine Ev.bind (a := (I s.1, I (thn (inv s.1) s.2), true)) ?_ (Ev.now _)
    unfold impl_ShearSurface.f
    refine Ev.bind (impl_surf _ _) ?_
    simp only [h0, k1, if_true, Option.bind_some]
    exact Ev.bind (impl_inv hs.pr hs.le) (Ev.bind (impl_then (isP_inv hs.pr) hs.pu (by rw [inv_len, hs.eq]) (by rw [inv_len]; exact hs.le)) (Ev.now _))
  · by_cases h2 : c = 116
    · have n1 : ¬ ((116 : Int) = 84) := by omega
      simp only [h2, n1, if_true, if_false]
      refine Ev.bind (a := (I s.1, I (thn s.1 s.2), true)) ?_ (Ev.now _)
      unfold impl_UnshearSurface.f
      refine Ev.bind (impl_surf _ _) ?_
      simp only [h0, k1, if_true, Option.bind_some]
      exact Ev.bind (impl_then hs.pr hs.pu hs.eq.symm hs.le) (Ev.now _)
    · by_cases h3 : c = 83
      · have n1 : ¬ ((83 : Int) = 84) := by omega
        have n2 : ¬ ((83 : Int) = 116) := by omega
        simp only [h3, n1, n2, if_true, if_false]
        refine Ev.bind (a := (I (inv s.2), I s.1, true)) ?_ (Ev.now _)
        unfold impl_TurnSurface.f
        refine Ev.bind (impl_surf _ _) ?_
        simp only [h0, if_true]
        refine Ev.bind (impl_inv hs.pu (by omega)) ?_
        simp only [k1, Option.bind_some]
        exact Ev.now _
      · have h4 : c = 115 := by omega
        have n1 : ¬ ((115 : Int) = 84) := by omega
        have n2 : ¬ ((115 : Int) = 116) := by omega
        have n3 : ¬ ((115 : Int) = 83) := by omega
        simp only [h4, n1, n2, n3, if_true, if_false]
        refine Ev.bind (a := (I s.2, I (inv s.1), true)) ?_ (Ev.now _)
        unfold impl_UnturnSurface.f
        refine Ev.bind (impl_surf _ _) ?_
        simp only [h0, k2, if_true, Option.bind_some]
        exact Ev.bind (impl_inv hs.pr hs.le) (Ev.now _)
def runP (r u : List Int) (w : ByteArray) : List Int × List Int × Bool := if surfB r u = true ∧ wordB w = true then (I (rn w (N r, N u) w.size).1, I (rn w (N r, N u) w.size).2, true) else ([], [], false)
theorem runP_yes {s : List Nat × List Nat} (hs : Sf s.1 s.2) {w : ByteArray} (hw : wordB w = true) : runP (I s.1) (I s.2) w = (I (rn w s w.size).1, I (rn w s w.size).2, true) := by
  unfold runP
  rw [if_pos ⟨surfB_I.mpr hs, hw⟩, N_I, N_I]
theorem impl_run (r u : List Int) (w : ByteArray) (hw : w.size ≤ 9000000000000000000) : Ev (fun k => impl_RunWord.f k r u w) (runP r u w) := by
  unfold impl_RunWord.f
  refine Ev.bind (impl_surf _ _) ?_
  by_cases h : surfB r u = true
  · simp only [h, if_true]
    refine Ev.bind (impl_wordOk w hw) ?_
    by_cases h2 : wordB w = true
    · obtain ⟨r, u, rfl, rfl, hs⟩ := surf_nat h
      rw [runP_yes (s := (r, u)) hs h2, h2]
      have hd := of_decide_eq_true h2
      have hle := hs.le
      have heq := hs.eq
      have k1 := copy_ev (I r) (by rw [I_len]; omega)
      have k2 := copy_ev (I u) (by rw [I_len]; omega)
      refine ev_succ ?_
      simp only [impl_RunWord.j0, impl_copySurface.f, k1, k2, Option.bind_some, Bool.not_true, Bool.false_eq_true, if_false]
      have H : ∀ d j : Nat, j + d = w.size → Ev (fun k => impl_RunWord.l0 k w (j : Int) (I (rn w (r, u) j).1) (I (rn w (r, u) j).2)) (I (rn w (r, u) w.size).1, I (rn w (r, u) w.size).2, true) := by
        intro d
        induction d with
        | zero =>
          intro j hj
          obtain rfl : j = w.size := by omega
          refine ev_succ ?_
          have c1 : ¬ ((w.size : Int) < (w.size : Int)) := by omega
          simp only [impl_RunWord.l0, c1, if_false]
          exact Ev.now _
        | succ d ih =>
          intro j hj
          refine ev_succ ?_
          have c1 : (j : Int) < (w.size : Int) := by omega
          have c2 : (0 : Int) ≤ (j : Int) := by omega
          have c3 := w64s j (by omega)
          simp only [impl_RunWord.l0, c1, c2, c3, if_true]
          exact Ev.bind (impl_letter (sf_rn (s := (r, u)) hs w j).1 _ (hd.1 j (by omega))) (ih (j + 1) (by omega))
      exact H w.size 0 (Nat.zero_add _)
    · have h2' := Bool.eq_false_iff.mpr h2
      have e : runP r u w = ([], [], false) := by
        unfold runP
        rw [if_neg (fun h => h2 h.2)]
      rw [e, h2']
      refine ev_succ ?_
      simp only [impl_RunWord.j0, Bool.not_false, if_true]
      exact Ev.now _
  · have e : runP r u w = ([], [], false) := by
      unfold runP
      rw [if_neg (fun k => h k.1)]
    have h' := Bool.eq_false_iff.mpr h
    simp only [h', Bool.false_eq_true, if_false]
    rw [e]
    refine ev_succ ?_
    simp only [impl_RunWord.j0, if_true]
    exact Ev.now _
end Go.Proofs.Ytoijcallajegfaa.M
end
section
/- Surfaces that are alike; surfaces that a word keeps. No conditions. -/
namespace Go.Proofs.Ytoijcallajegfaa.M
set_option linter.unusedVariables false
set_option linter.unusedSimpArgs false
open Go.RowKit Go.Proofs.YtoijcallajegfaaW.PrintWords Go.Proofs.YtoijcallajegfaaW.PrintLast Go.Proofs.YtoijcallajegfaaW.PrintMore Go.Proofs.Ytoijcallajegfaa.A
theorem equal_ev (a b : List Nat) (h : a.length ≤ 1000000000) : Ev (fun k => impl_SameList.f k (I a) (I b)) (decide (a = b)) := by
  unfold impl_SameList.f slices_Equal_int_int.f
  refine Ev.bind (a := decide (a = b)) ?_ (Ev.now _)
  by_cases hl : (a.length : Int) = (b.length : Int)
  · have hl' : a.length = b.length := by omega
    simp only [I_len', hl, if_true]
    have H : ∀ d i : Nat, i + d = a.length → Ev (fun k => slices_Equal_int_int.l0 k (I a) (I b) (b.length : Int) (i : Int)) (decide (a.drop i = b.drop i)) := by
      intro d
      induction d with
      | zero =>
        intro i hi
        refine ev_succ ?_
        have c1 : ¬ ((i : Int) < (b.length : Int)) := by omega
        have e : decide (a.drop i = b.drop i) = true := by rw [List.drop_of_length_le (by omega), List.drop_of_length_le (by omega)]; simp
        simp only [slices_Equal_int_int.l0, c1, if_false, e]
        exact Ev.now _
      | succ d ih =>
        intro i hi
        have hia : i < a.length := by omega
        have hib : i < b.length := by omega
        rw [List.drop_eq_getElem_cons hia, ← g_get hia, List.drop_eq_getElem_cons hib, ← g_get hib]
        have c1 : (i : Int) < (b.length : Int) := by omega
        have c2 : (0 : Int) ≤ (i : Int) := by omega
        have c4 : (i : Int) < (a.length : Int) := by omega
        have c3 := w64s i (by omega)
        refine ev_succ ?_
        by_cases he : g a i = g b i
        · have z : ((g a i : Nat) : Int) = ((g b i : Nat) : Int) := by omega
          have e : decide (g a i :: a.drop (i + 1) = g b i :: b.drop (i + 1)) = decide (a.drop (i + 1) = b.drop (i + 1)) := by simp [he]
          rw [e]
          simp only [slices_Equal_int_int.l0, c1, c2, c3, c4, I_len', rdI, z, if_true]
          exact ih (i + 1) (by omega)
        · have z : ¬ (((g a i : Nat) : Int) = ((g b i : Nat) : Int)) := by omega
          have e : decide (g a i :: a.drop (i + 1) = g b i :: b.drop (i + 1)) = false := by simp [he]
          rw [e]
          simp only [slices_Equal_int_int.l0, c1, c2, c4, I_len', rdI, z, if_true, if_false]
          exact Ev.now _
    have key := H a.length 0 (Nat.zero_add _)
    rw [List.drop_zero, List.drop_zero] at key
    exact key
  · have e : decide (a = b) = false := by
      rw [decide_eq_false_iff_not]
      intro e
      rw [e] at hl
      exact hl rfl
    simp only [I_len', hl, if_false, e]
    exact Ev.now _
theorem impl_same (a b : List Nat × List Nat) (h1 : a.1.length ≤ 1000000) (h2 : a.2.length ≤ 1000000) : Ev (fun k => impl_SameSurface.f k (I a.1) (I a.2) (I b.1) (I b.2)) (decide (a = b)) := by
  unfold impl_SameSurface.f
  refine Ev.bind (equal_ev a.1 b.1 (by omega)) ?_
  by_cases h : a.1 = b.1
  · have e : decide (a = b) = decide (a.2 = b.2) := by
      rw [decide_eq_decide, Prod.ext_iff]
      simp [h]
    rw [e]
    simp only [h, decide_true, if_true]
    exact Ev.bind (equal_ev a.2 b.2 (by omega)) (Ev.now _)
  · have e : decide (a = b) = false := by
      rw [decide_eq_false_iff_not]
      intro e
      exact h (by rw [e])
    rw [e]
    simp only [h, decide_false, Bool.false_eq_true, if_false]
    exact Ev.now _
theorem spec_same (a b : List Nat × List Nat) (h1 : a.1.length ≤ 1000000) (h2 : a.2.length ≤ 1000000) : Ev (fun k => spec_SameSurface.f k (I a.1) (I a.2) (I b.1) (I b.2)) (decide (a = b)) := by
  unfold spec_SameSurface.f
  refine Ev.bind (sameList_nat a.1 b.1 (by omega)) ?_
  by_cases h : a.1 = b.1
  · have e : decide (a = b) = decide (a.2 = b.2) := by
      rw [decide_eq_decide, Prod.ext_iff]
      simp [h]
    rw [e]
    simp only [h, decide_true, if_true]
    exact Ev.bind (sameList_nat a.2 b.2 (by omega)) (Ev.now _)
  · have e : decide (a = b) = false := by
      rw [decide_eq_false_iff_not]
      intro e
      exact h (by rw [e])
    rw [e]
    simp only [h, decide_false, Bool.false_eq_true, if_false]
    exact Ev.now _
theorem iso_both {s t : List Nat × List Nat} (hs : Sf s.1 s.2) (ht : Sf t.1 t.2) : Ev (fun k => spec_AreIsomorphic.f k (I s.1) (I s.2) (I t.1) (I t.2)) (decide (canS s.1 s.2 = canS t.1 t.2)) ∧ Ev (fun k => impl_AreIsomorphic.f k (I s.1) (I s.2) (I t.1) (I t.2)) (decide (canS s.1 s.2 = canS t.1 t.2)) := by
  have hs0 := surfB_I.mpr hs
  have ht0 := surfB_I.mpr ht
  have h1 := canK_len (r := s.1) (u := s.2) (s.1.length - 1)
  have l1 := hs.le
  have l2 := hs.eq
  unfold spec_AreIsomorphic.f impl_AreIsomorphic.f
  constructor
  · refine Ev.bind (spec_surf _ _) ?_
    simp only [hs0, if_true]
    refine Ev.bind (spec_surf _ _) ?_
    simp only [ht0, if_true]
    exact Ev.bind (spec_canon hs) (Ev.bind (spec_canon ht) (Ev.bind (spec_same (canS s.1 s.2) (canS t.1 t.2) (by unfold canS; rw [h1.1]; omega) (by unfold canS; rw [h1.2]; omega)) (Ev.now _)))
  · refine Ev.bind (impl_canon hs) (Ev.bind (impl_canon ht) ?_)
    simp only [if_true]
    exact Ev.bind (impl_same (canS s.1 s.2) (canS t.1 t.2) (by unfold canS; rw [h1.1]; omega) (by unfold canS; rw [h1.2]; omega)) (Ev.now _)
theorem spec_wordOk (w : ByteArray) : Ev (fun k => spec_WordOk.f k w) (wordB w) := by
  unfold spec_WordOk.f
  by_cases h40 : (w.size : Int) > 40
  · have e : wordB w = false := by
      unfold wordB
      rw [decide_eq_false_iff_not]
      intro h
      have := h.2
      omega
    simp only [h40, if_true, e]
    exact Ev.now _
  · simp only [h40, if_false]
    have H : ∀ d j : Nat, j + d = w.size → (∀ i, i < j → letB (bt w (i : Int)) = true) → Ev (fun k => spec_WordOk.l0 k w (j : Int)) (wordB w) := by
      intro d
      induction d with
      | zero =>
        intro j hj hl
        obtain rfl : j = w.size := by omega
        refine ev_succ ?_
        have c1 : ¬ ((w.size : Int) < (w.size : Int)) := by omega
        have e : wordB w = true := by
          unfold wordB
          rw [decide_eq_true_iff]
          exact ⟨hl, by omega⟩
        simp only [spec_WordOk.l0, c1, if_false, e]
        exact Ev.now _
      | succ d ih =>
        intro j hj hl
        refine ev_succ ?_
        have c1 : (j : Int) < (w.size : Int) := by omega
        have c2 : (0 : Int) ≤ (j : Int) := by omega
        have key := fun (hb : letB (bt w (j : Int)) = true) => ih (j + 1) (by omega) (fun q hq => by
          by_cases e : q = j
          · rw [e]; exact hb
          · exact hl q (by omega))
        have c3 := w64s j (by omega)
        simp only [spec_WordOk.l0, c1, c2, c3, if_true]
        by_cases h1 : bt w (j : Int) = 84
        · simp only [h1, if_true]
          exact key (by unfold letB; exact decide_eq_true (Or.inl h1))
        · by_cases h2 : bt w (j : Int) = 116
          · have n1 : ¬ ((116 : Int) = 84) := by omega
            simp only [h2, n1, if_true, if_false]
            exact key (by unfold letB; exact decide_eq_true (Or.inr (Or.inl h2)))
          · by_cases h3 : bt w (j : Int) = 83
            · have n1 : ¬ ((83 : Int) = 84) := by omega
              have n2 : ¬ ((83 : Int) = 116) := by omega
              simp only [h3, n1, n2, if_true, if_false]
              exact key (by unfold letB; exact decide_eq_true (Or.inr (Or.inr (Or.inl h3))))
            · by_cases h4 : bt w (j : Int) = 115
              · have n1 : ¬ ((115 : Int) = 84) := by omega
                have n2 : ¬ ((115 : Int) = 116) := by omega
                have n3 : ¬ ((115 : Int) = 83) := by omega
                simp only [h4, n1, n2, n3, if_true, if_false]
                exact key (by unfold letB; exact decide_eq_true (Or.inr (Or.inr (Or.inr h4))))
              · have e : wordB w = false := by
                  unfold wordB
                  rw [decide_eq_false_iff_not]
                  intro h
                  have := of_decide_eq_true (h.1 j (by omega))
                  omega
                simp only [h1, h2, h3, h4, if_false, e]
                exact Ev.now _
    exact H w.size 0 (Nat.zero_add _) (fun i hi => by omega)
theorem spec_runW (r u : List Int) (w : ByteArray) : Ev (fun k => spec_RunWord.f k r u w) (runP r u w) := by
  unfold spec_RunWord.f
  refine Ev.bind (spec_surf _ _) ?_
  by_cases h : surfB r u = true
  · simp only [h, if_true]
    refine Ev.bind (spec_wordOk w) ?_
    by_cases h2 : wordB w = true
    · obtain ⟨r, u, rfl, rfl, hs⟩ := surf_nat h
      rw [runP_yes (s := (r, u)) hs h2]
      have hd := of_decide_eq_true h2
      simp only [h2, if_true]
      exact Ev.bind (spec_run (s := (r, u)) hs w (by omega)) (Ev.now _)
    · have e : runP r u w = ([], [], false) := by
        unfold runP
        rw [if_neg (fun h => h2 h.2)]
      rw [e]
      simp only [h2, Bool.false_eq_true, if_false]
      exact Ev.now _
  · have e : runP r u w = ([], [], false) := by
      unfold runP
      rw [if_neg (fun k => h k.1)]
    rw [e]
    simp only [h, Bool.false_eq_true, if_false]
    exact Ev.now _
def fixP (r u : List Int) (w : ByteArray) : Bool := decide (surfB r u = true ∧ wordB w = true ∧ canS (rn w (N r, N u) w.size).1 (rn w (N r, N u) w.size).2 = canS (N r) (N u))
theorem fixed_by (r u : List Int) (w : ByteArray) (hw : w.size ≤ 9000000000000000000) : Ev (fun k => spec_IsFixedBy.f k r u w) (fixP r u w) ∧ Ev (fun k => impl_IsFixedBy.f k r u w) (fixP r u w) := by
  have e1 := spec_runW r u w
  have e2 := impl_run r u w hw
  unfold spec_IsFixedBy.f impl_IsFixedBy.f
  by_cases h : surfB r u = true ∧ wordB w = true
  · obtain ⟨h1, h2⟩ := h
    obtain ⟨r, u, rfl, rfl, hs⟩ := surf_nat h1
    rw [runP_yes (s := (r, u)) hs h2] at e1 e2
    have hr := sf_rn (s := (r, u)) hs w w.size
    obtain ⟨i1, i2⟩ := iso_both hr.1 (t := (r, u)) hs
    have e : fixP (I r) (I u) w = decide (canS (rn w (r, u) w.size).1 (rn w (r, u) w.size).2 = canS r u) := by
      unfold fixP
      rw [N_I, N_I, decide_eq_decide]
      simp [h1, h2]
    rw [e]
    refine ⟨Ev.bind e1 ?_, Ev.bind e2 ?_⟩
    · simp only [if_true]
      exact Ev.bind i1 (Ev.now _)
    · simp only [if_true]
      exact Ev.bind i2 (Ev.now _)
  · have e : runP r u w = ([], [], false) := by
      unfold runP
      rw [if_neg h]
    have e3 : fixP r u w = false := by
      unfold fixP
      rw [decide_eq_false_iff_not]
      intro k
      exact h ⟨k.1, k.2.1⟩
    rw [e] at e1 e2
    rw [e3]
    refine ⟨Ev.bind e1 ?_, Ev.bind e2 ?_⟩
    · simp only [Bool.false_eq_true, if_false]
      exact Ev.now _
    · simp only [Bool.false_eq_true, if_false]
      exact Ev.now _
end Go.Proofs.Ytoijcallajegfaa.M
end
section
/- The law of half turns by a word answers true. No conditions. -/
namespace Go.Proofs.Ytoijcallajegfaa.Pure
set_option linter.unusedVariables false
set_option linter.unusedSimpArgs false
open Go.RowKit Go.Proofs.YtoijcallajegfaaW.PrintWords Go.Proofs.YtoijcallajegfaaW.PrintLast Go.Proofs.YtoijcallajegfaaW.PrintMore Go.Proofs.Ytoijcallajegfaa.A Go.Proofs.Ytoijcallajegfaa.M
theorem FnExactHasHalfTurn (r u : List Int) (hr : r.length ≤ maxLen) (_ : ∀ x ∈ r, (Lit.int .i64 x).wf = true) (hu : u.length ≤ maxLen) (_ : ∀ x ∈ u, (Lit.int .i64 x).wf = true) : ∃ k, laws_FnExactHasHalfTurn.F k r u := by
  unfold maxLen at hr hu
  unfold laws_FnExactHasHalfTurn.F
  by_cases h2 : r.length + u.length ≤ 1048576
  · have h := fixed_by r u (⟨#[83, 83]⟩ : ByteArray) (by decide)
    have h1 : Ev (fun k => spec_HasHalfTurn.f k r u) (fixP r u (⟨#[83, 83]⟩ : ByteArray)) := by
      unfold spec_HasHalfTurn.f
      exact Ev.bind h.1 (Ev.now _)
    have h3 : Ev (fun k => impl_HasHalfTurn.f k r u) (fixP r u (⟨#[83, 83]⟩ : ByteArray)) := by
      unfold impl_HasHalfTurn.f
      exact Ev.bind h.2 (Ev.now _)
    obtain ⟨K1, e1⟩ := h1
    obtain ⟨K2, e2⟩ := h3
    obtain ⟨K3, e3⟩ := toSurf_ev r u (by omega) (by omega)
    obtain ⟨K4, e4⟩ := eqSurf_same r u (by omega) (by omega)
    exact ⟨K1 + K2 + K3 + K4, _, sz_small h2, .inr ⟨by omega, _, e3 _ (by omega), e4 _ (by omega), e1 _ (by omega), e2 _ (by omega)⟩⟩
  · exact ⟨0, _, sz_big (by omega) (by omega) h2, .inl (by omega)⟩
end Go.Proofs.Ytoijcallajegfaa.Pure
end
