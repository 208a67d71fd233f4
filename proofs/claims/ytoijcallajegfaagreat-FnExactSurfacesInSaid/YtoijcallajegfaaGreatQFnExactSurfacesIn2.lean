/- Lemmas for the row FnExactSurfacesIn: the program's functions told as plain functions, and plain mathematics. No conditions. -/
import Derived.Shelf.SlSortCmp.NoneTotal
import Derived.Test.YtoijcallajegfaaGreatQFnExactSurfacesIn1
section
namespace Go.Proofs.YtoijcallajegfaaGreat.A
open Go.RowKit Go.Proofs.YtoijcallajegfaaGreatW.PrintWords Go.Proofs.YtoijcallajegfaaGreatW.PrintLast Go.Proofs.YtoijcallajegfaaGreatW.PrintMore
attribute [local go_sem] max2_int min2_int max_two min_two max_three min_three max_four min_four
set_option linter.unusedVariables false
set_option linter.unusedSimpArgs false
def Z54.l0 : Nat → Int → List Int → List Int → List Int → List Int → Option (List Int × List Int)
 | 0, _, _, _, _, _ => none
 | k + 1, x4, x219000, x219001, x230000, x230001 => if x4 < (x219000.length : Int) then ((Z55.f k x219000 x219001 x4).bind fun t230 => ((Z37.f k x219000 x219001 t230).bind fun bt233 => ((Z36.f k bt233.1 bt233.2 x230000 x230001).bind fun t240 => (if t240 = true then (Z54.l0 k (wrap64 (x4 + 1)) x219000 x219001 bt233.1 bt233.2) else (Z54.l0 k (wrap64 (x4 + 1)) x219000 x219001 x230000 x230001))))) else (some (x230000, x230001))
def Z54.f (k : Nat) (l0_0 : List Int) (l0_1 : List Int) : Option (List Int × List Int) := (Z55.f k l0_0 l0_1 0).bind fun t220 => ((Z37.f k l0_0 l0_1 t220).bind fun bt223 => (Z54.l0 k 1 l0_0 l0_1 bt223.1 bt223.2))
theorem Z54.mono_l : ∀ k, (∀ y0 y1 y2 y3 y4, LeO (Z54.l0 k y0 y1 y2 y3 y4) (Z54.l0 (k + 1) y0 y1 y2 y3 y4))
 | 0 => fun _ _ _ _ _ r h => by simp [Z54.l0] at h
 | k + 1 => by
  have ih0 := Z54.mono_l k
  ·intro y0 y1 y2 y3 y4
   unfold Z54.l0
   repeat' first|exact ih0 _ _ _ _ _|exact Z36.mono _ _ _ _ _|exact Z55.mono _ _ _ _|exact Z37.mono _ _ _ _|exact lo_|refine LeO.ite ?_ ?_|refine LeO.bind ?_ (fun _ => ?_)
theorem Z54.mono : ∀ a0 a1 k, LeO (Z54.f k a0 a1) (Z54.f (k + 1) a0 a1) := by
 intro a0 a1 k
 have ih0 := Z54.mono_l k
 unfold Z54.f
 repeat' first|exact ih0 _ _ _ _ _|exact Z36.mono _ _ _ _ _|exact Z55.mono _ _ _ _|exact Z37.mono _ _ _ _|exact lo_|refine LeO.ite ?_ ?_|refine LeO.bind ?_ (fun _ => ?_)
set_option maxHeartbeats 8000000 in
set_option maxRecDepth 100000 in
theorem Z54.calls (k : Nat) (A0_0 : Option Addr) (c0_0 : Nat) (l0_0 : List Int) (A0_1 : Option Addr) (c0_1 : Nat) (l0_1 : List Int) (r1 : List Int) (r2 : List Int) (w : World) (hr0_0 : Kd.C (Kd.int .i64) w A0_0 l0_0.length l0_0) (hc0_0 : l0_0.length ≤ c0_0) (hr0_1 : Kd.C (Kd.int .i64) w A0_1 l0_1.length l0_1) (hc0_1 : l0_1.length ≤ c0_1) (h : Z54.f k l0_0 l0_1 = some (r1, r2)) :
  Calls Tryz.prog 35 #[.agg #[.slice A0_0 l0_0.length c0_0, .slice A0_1 l0_1.length c0_1]] w fun e w' => ∃ v0_ v1_ : Value, e = .returned (.agg #[v0_, v1_]) ∧ Kd.R (Kd.int .i64) 3 w' w.heap.size (fun k_ => some k_ ≠ (v1_ : Value).ownBlock) v0_ r1 ∧ Kd.R (Kd.int .i64) 3 w' w.heap.size (fun k_ => some k_ ≠ (v0_ : Value).ownBlock) v1_ r2 ∧ Below w.heap.size w w' := by
 have hu38 := Tryz.underlying38
 have HR0_0 := A_ hr0_0
 have HC0_0 := A_ hc0_0
 clear hr0_0 hc0_0
 have HR0_1 := A_ hr0_1
 have HC0_1 := A_ hc0_1
 clear hr0_1 hc0_1
 have HB := A_ (Below.refl w.heap.size w)
 have H := h
 unfold Z54.f at H
 clear h
 obtain ⟨t220, A2, H⟩ := bi_ H
 obtain ⟨⟨t223, t226⟩, A3, H⟩ := bi_ H
 try dsimp only at H
 have H' := A_ H
 clear H
 go_enter Tryz.func35, Tryz.ntmps35
 try go_wp2_with (first | ((with_reducible refine gB_ (N := 1) rfl ?_); refine bx_ 1 #[.slice A0_0 l0_0.length c0_0, .slice A0_1 l0_1.length c0_1] 38 ?_; intro gb218 hg w4 hbox hb; have BK218 := A_ hbox; have GW218 := gw_ w hg; have GE218 := GW218; replace HB := b1_ hb; clear hb hbox hg) | ((with_reducible refine gB_ (N := 2) rfl ?_); refine bx_ 2 #[.slice none 0 0, .slice none 0 0] 38 ?_; intro gb219 hg w5 hbox hb; have BK219 := A_ hbox; have GW219 := gw_ w hg; have GE219 := GW219; replace HB := b1_ hb; have NB218_219 := gN_ BK218 hg; have NB219_218 := gP_ BK218 hg; replace BK218 := bb_ BK218 hb; clear hb hbox hg))
 replace BK218 := A_ (kB_ BK218.out)
 replace BK219 := A_ (kB_ BK219.out)
 replace HB := A_ (bC_ HB.out)
 refine start_ (n := 6) (S := fun w' => w'.cell? ⟨gb218, 0, none⟩ = some (.slice A0_0 l0_0.length c0_0) ∧ w'.cell? ⟨gb218, 1, none⟩ = some (.slice A0_1 l0_1.length c0_1)) (ds := []) (bl_ 6 0) (by kernel_rfl) rfl (by kernel_rfl) ⟨cz0_ BK218, cz1_ BK218⟩ (fun hHeld => ?_)
 generalize w5.drew = w6 at BK218 BK219 HB hHeld ⊢
 refine take_ (i := 0) (N := some 6) (v := ?_) (a' := ?_) (bl_ 6 1) rfl rfl (by kernel_rfl) (fun _ _ _ h => h) (Or.inl ⟨by rfl, ?_⟩) hHeld ?_ ?_
 rotate_left
 ·rintro w' ⟨s0, s1⟩
  go_simp
  with_reducible rfl
 rotate_left
 ·simp only [Act.put, sA_, sB_, sC_, i64_w, i32_w]
  rfl
 refine take_ (i := 1) (N := some 7) (v := ?_) (a' := ?_) (bl_ 6 3) rfl rfl (by kernel_rfl) (fun _ _ _ h => h) (Or.inl ⟨by rfl, ?_⟩) hHeld ?_ ?_
 rotate_left
 ·rintro w' ⟨s0, s1⟩
  go_simp
  with_reducible rfl
 rotate_left
 ·simp only [Act.put, sA_, sB_, sC_, i64_w, i32_w]
  rfl
 refine join_ (σ := Value × Value × Value × Nat) 1 (bl_ 6 31) (fun s_ => [(8, s_.1), (9, .agg #[s_.2.1, s_.2.2.1]), (3, .pointer (some ⟨s_.2.2.2, 0, none⟩))]) (fun s_ w' => (w'.cell? ⟨gb218, 0, none⟩ = some (.slice A0_0 l0_0.length c0_0) ∧ w'.cell? ⟨gb218, 1, none⟩ = some (.slice A0_1 l0_1.length c0_1)) ∧ (Kd.R (Kd.int .i64) 3 w' w.heap.size (fun k_ => some k_ ≠ (s_.2.1 : Value).ownBlock ∧ some k_ ≠ (s_.2.2.1 : Value).ownBlock) s_.1 t220) ∧ (Kd.R (Kd.int .i64) 3 w' w.heap.size (fun k_ => some k_ ≠ (s_.1 : Value).ownBlock ∧ some k_ ≠ (s_.2.2.1 : Value).ownBlock) s_.2.1 t223) ∧ (Kd.R (Kd.int .i64) 3 w' w.heap.size (fun k_ => some k_ ≠ (s_.1 : Value).ownBlock ∧ some k_ ≠ (s_.2.1 : Value).ownBlock) s_.2.2.1 t226) ∧ (w'.heap[gb218]? = some (.cells #[.slice A0_0 l0_0.length c0_0, .slice A0_1 l0_1.length c0_1] 38 (0, 0))) ∧ (w'.heap[gb219]? = some (.cells #[.slice none 0 0, .slice none 0 0] 38 (0, 0))) ∧ (w'.heap[s_.2.2.2]? = some (.cells #[.slice none 0 0, .slice none 0 0] 38 (0, 0))) ∧ (w.heap.size ≤ s_.2.2.2) ∧ (w.heap.size ≤ s_.2.2.2) ∧ (gb218 ≠ s_.2.2.2) ∧ (s_.2.2.2 ≠ gb218) ∧ (gb219 ≠ s_.2.2.2) ∧ (s_.2.2.2 ≠ gb219) ∧ (Below w.heap.size w w')) ?_ ?_
 rotate_left
 ·intro hCont
  refine two_ (i := 2) (j := 4) (Ni := some 8) (Nj := some 3) (bl_ 6 7) (bl_ 6 19) rfl rfl rfl rfl (by kernel_rfl) (by decide) (by decide) (fun K hK => ?_) (fun K hK => ?_)
  ·skip
   refine gO_ Tryz.func50 #[.agg #[.slice A0_0 l0_0.length c0_0, .slice A0_1 l0_1.length c0_1], .int .i64 0] (by rfl) rfl rfl qa_ ?_
   with_reducible refine (Z55.calls k _ _ l0_0 _ _ l0_1 0 t220 _ (cb_ HR0_0) HC0_0.out (cb_ HR0_1) HC0_1.out A2.out).mono ?_
   rintro e w7 ⟨v221, rfl, ho0, hb⟩
   refine ⟨_, rfl, ?_⟩
   have HO222 := rl_ w ho0
   replace BK218 := bb_ BK218 hb
   replace BK219 := bb_ BK219 hb
   replace HB := b1_ hb
   clear hb ho0
   obtain ⟨Ao8, co8, eo8⟩ := Kd.R_slice HO222.out
   (first | subst eo8 | (injection eo8 with f1_ f2_ f3_; have f4_ := f1_.symm; have f5_ := f3_.symm; clear f1_ f2_ f3_; subst f4_; subst f5_))
   refine hK.out _ _ ⟨cz0_ BK218, cz1_ BK218⟩ (fun hHeld => ?_)
   clear hK K
   refine no_ (some 8) ?_
   refine two_ (i := 3) (j := 4) (Ni := some 9) (Nj := some 3) (bl_ 6 15) (bl_ 6 23) rfl rfl rfl rfl (by kernel_rfl) (by decide) (by decide) (fun K hK => ?_) (fun K hK => ?_)
   ·skip
    refine gO_ Tryz.func49 #[.agg #[.slice A0_0 l0_0.length c0_0, .slice A0_1 l0_1.length c0_1], .slice Ao8 t220.length co8] (by rfl) rfl rfl qa_ ?_
    with_reducible refine (Z37.calls k _ _ l0_0 _ _ l0_1 _ _ t220 t223 t226 _ (cb_ HR0_0) HC0_0.out (cb_ HR0_1) HC0_1.out (cr_ HO222) ((Kd.R_reads' HO222.out).2.1) A3.out).mono ?_
    rintro e w9 ⟨v224, v227, rfl, ho0, ho1, hb⟩
    refine ⟨_, rfl, ?_⟩
    have HO225 := A_ (rE_ (Kd.R_new' ho0 (Kd.R_lt (rr_ HO222))) (bF_ hB_))
    have HO228 := A_ (rE_ (Kd.R_new' ho1 (Kd.R_lt (rr_ HO222))) (bF_ hB_))
    replace HO222 := A_ (Kd.R_mono (Kd.R_told (Kd.R_told (Kd.R_old (rr_ HO222) hb) (Kd.R_base ho0)) (Kd.R_base ho1)) (fun _ h_ => h_.1))
    replace BK218 := bb_ BK218 hb
    replace BK219 := bb_ BK219 hb
    replace HB := b1_ hb
    clear hb ho0 ho1
    refine hK.out _ _ ⟨cz0_ BK218, cz1_ BK218⟩ (fun hHeld => ?_)
    clear hK K
    refine no_ (some 9) ?_
    refine one_ (i := 4) (N := some 3) (bl_ 6 31) rfl rfl (by kernel_rfl) (by decide) (fun K hK => ?_)
    refine box_step ?hg (N := 3) ?hd (cs := #[.slice none 0 0, .slice none 0 0]) (t := 38) ?hr ?_; (case hd => rfl); (case hg => rfl); (case hr => first | (go_simp; done) | (go_simp; rfl))
    intro gb229 hg w10 hbox hb
    replace HO222 := rb_ HO222 hb
    replace HO225 := rb_ HO225 hb
    replace HO228 := rb_ HO228 hb
    have BK229 := A_ hbox
    have GW229 := gw_ w hg
    have GE229 := GW229
    replace HB := b1_ hb
    have NB218_229 := gN_ BK218 hg
    have NB229_218 := gP_ BK218 hg
    replace BK218 := bb_ BK218 hb
    have NB219_229 := gN_ BK219 hg
    have NB229_219 := gP_ BK219 hg
    replace BK219 := bb_ BK219 hb
    clear hb hbox hg
    refine hK.out _ _ ⟨cz0_ BK218, cz1_ BK218⟩ (fun hHeld => ?_)
    clear hK K
    refine no_ (some 3) ?_
    exact norm_ (by simp only [putAll, Act.put, sA_, sB_, sC_]) (hCont (.slice Ao8 t220.length co8, v224, v227, gb229) _ ⟨hHeld, (rw_ (Kd.R_mono HO222.out (fun _ hk => ⟨hk.1.2, hk.2⟩))), (rw_ (Kd.R_mono HO225.out (fun _ hk => ⟨hk.2, hk.1⟩))), (rw_ (Kd.R_mono HO228.out (fun _ hk => ⟨hk.2, hk.1⟩))), (kk_ BK218), (kk_ BK219), (kk_ BK229), GW229.out, GE229.out, NB218_229.out, NB229_218.out, NB219_229.out, NB229_219.out, hB_⟩)
   ·skip
    refine box_step ?hg (N := 3) ?hd (cs := #[.slice none 0 0, .slice none 0 0]) (t := 38) ?hr ?_; (case hd => rfl); (case hg => rfl); (case hr => first | (go_simp; done) | (go_simp; rfl))
    intro gb229 hg w8 hbox hb
    replace HO222 := rb_ HO222 hb
    have BK229 := A_ hbox
    have GW229 := gw_ w hg
    have GE229 := GW229
    replace HB := b1_ hb
    have NB218_229 := gN_ BK218 hg
    have NB229_218 := gP_ BK218 hg
    replace BK218 := bb_ BK218 hb
    have NB219_229 := gN_ BK219 hg
    have NB229_219 := gP_ BK219 hg
    replace BK219 := bb_ BK219 hb
    clear hb hbox hg
    obtain ⟨Ao9, co9, eo9⟩ := Kd.R_slice HO222.out
    (first | subst eo9 | (injection eo9 with f1_ f2_ f3_; have f4_ := f1_.symm; have f5_ := f3_.symm; clear f1_ f2_ f3_; subst f4_; subst f5_))
    refine hK.out _ _ ⟨cz0_ BK218, cz1_ BK218⟩ (fun hHeld => ?_)
    clear hK K
    refine no_ (some 3) ?_
    refine one_ (i := 3) (N := some 9) (bl_ 6 31) rfl rfl (by kernel_rfl) (by decide) (fun K hK => ?_)
    refine gO_ Tryz.func49 #[.agg #[.slice A0_0 l0_0.length c0_0, .slice A0_1 l0_1.length c0_1], .slice Ao9 t220.length co9] (by rfl) rfl rfl qa_ ?_
    with_reducible refine (Z37.calls k _ _ l0_0 _ _ l0_1 _ _ t220 t223 t226 _ (cb_ HR0_0) HC0_0.out (cb_ HR0_1) HC0_1.out (cr_ HO222) ((Kd.R_reads' HO222.out).2.1) A3.out).mono ?_
    rintro e w10 ⟨v224, v227, rfl, ho0, ho1, hb⟩
    refine ⟨_, rfl, ?_⟩
    have HO225 := A_ (rE_ (Kd.R_new' ho0 (Kd.R_lt (rr_ HO222))) (bF_ hB_))
    have HO228 := A_ (rE_ (Kd.R_new' ho1 (Kd.R_lt (rr_ HO222))) (bF_ hB_))
    replace HO222 := A_ (Kd.R_mono (Kd.R_told (Kd.R_told (Kd.R_old (rr_ HO222) hb) (Kd.R_base ho0)) (Kd.R_base ho1)) (fun _ h_ => h_.1))
    replace BK218 := bb_ BK218 hb
    replace BK219 := bb_ BK219 hb
    replace BK229 := bb_ BK229 hb
    replace HB := b1_ hb
    clear hb ho0 ho1
    refine hK.out _ _ ⟨cz0_ BK218, cz1_ BK218⟩ (fun hHeld => ?_)
    clear hK K
    refine no_ (some 9) ?_
    exact norm_ (by simp only [putAll, Act.put, sA_, sB_, sC_]) (hCont (.slice Ao9 t220.length co9, v224, v227, gb229) _ ⟨hHeld, (rw_ (Kd.R_mono HO222.out (fun _ hk => ⟨hk.1.2, hk.2⟩))), (rw_ (Kd.R_mono HO225.out (fun _ hk => ⟨hk.2, hk.1⟩))), (rw_ (Kd.R_mono HO228.out (fun _ hk => ⟨hk.2, hk.1⟩))), (kk_ BK218), (kk_ BK219), (kk_ BK229), GW229.out, GE229.out, NB218_229.out, NB229_218.out, NB219_229.out, NB229_219.out, hB_⟩)
  ·skip
   refine box_step ?hg (N := 3) ?hd (cs := #[.slice none 0 0, .slice none 0 0]) (t := 38) ?hr ?_; (case hd => rfl); (case hg => rfl); (case hr => first | (go_simp; done) | (go_simp; rfl))
   intro gb229 hg w7 hbox hb
   have BK229 := A_ hbox
   have GW229 := gw_ w hg
   have GE229 := GW229
   replace HB := b1_ hb
   have NB218_229 := gN_ BK218 hg
   have NB229_218 := gP_ BK218 hg
   replace BK218 := bb_ BK218 hb
   have NB219_229 := gN_ BK219 hg
   have NB229_219 := gP_ BK219 hg
   replace BK219 := bb_ BK219 hb
   clear hb hbox hg
   refine hK.out _ _ ⟨cz0_ BK218, cz1_ BK218⟩ (fun hHeld => ?_)
   clear hK K
   refine no_ (some 3) ?_
   refine one_ (i := 2) (N := some 8) (bl_ 6 23) rfl rfl (by kernel_rfl) (by decide) (fun K hK => ?_)
   refine gO_ Tryz.func50 #[.agg #[.slice A0_0 l0_0.length c0_0, .slice A0_1 l0_1.length c0_1], .int .i64 0] (by rfl) rfl rfl qa_ ?_
   with_reducible refine (Z55.calls k _ _ l0_0 _ _ l0_1 0 t220 _ (cb_ HR0_0) HC0_0.out (cb_ HR0_1) HC0_1.out A2.out).mono ?_
   rintro e w8 ⟨v221, rfl, ho0, hb⟩
   refine ⟨_, rfl, ?_⟩
   have HO222 := rl_ w ho0
   replace BK218 := bb_ BK218 hb
   replace BK219 := bb_ BK219 hb
   replace BK229 := bb_ BK229 hb
   replace HB := b1_ hb
   clear hb ho0
   obtain ⟨Ao9, co9, eo9⟩ := Kd.R_slice HO222.out
   (first | subst eo9 | (injection eo9 with f1_ f2_ f3_; have f4_ := f1_.symm; have f5_ := f3_.symm; clear f1_ f2_ f3_; subst f4_; subst f5_))
   refine hK.out _ _ ⟨cz0_ BK218, cz1_ BK218⟩ (fun hHeld => ?_)
   clear hK K
   refine no_ (some 8) ?_
   refine one_ (i := 3) (N := some 9) (bl_ 6 31) rfl rfl (by kernel_rfl) (by decide) (fun K hK => ?_)
   refine gO_ Tryz.func49 #[.agg #[.slice A0_0 l0_0.length c0_0, .slice A0_1 l0_1.length c0_1], .slice Ao9 t220.length co9] (by rfl) rfl rfl qa_ ?_
   with_reducible refine (Z37.calls k _ _ l0_0 _ _ l0_1 _ _ t220 t223 t226 _ (cb_ HR0_0) HC0_0.out (cb_ HR0_1) HC0_1.out (cr_ HO222) ((Kd.R_reads' HO222.out).2.1) A3.out).mono ?_
   rintro e w10 ⟨v224, v227, rfl, ho0, ho1, hb⟩
   refine ⟨_, rfl, ?_⟩
   have HO225 := A_ (rE_ (Kd.R_new' ho0 (Kd.R_lt (rr_ HO222))) (bF_ hB_))
   have HO228 := A_ (rE_ (Kd.R_new' ho1 (Kd.R_lt (rr_ HO222))) (bF_ hB_))
   replace HO222 := A_ (Kd.R_mono (Kd.R_told (Kd.R_told (Kd.R_old (rr_ HO222) hb) (Kd.R_base ho0)) (Kd.R_base ho1)) (fun _ h_ => h_.1))
   replace BK218 := bb_ BK218 hb
   replace BK219 := bb_ BK219 hb
   replace BK229 := bb_ BK229 hb
   replace HB := b1_ hb
   clear hb ho0 ho1
   refine hK.out _ _ ⟨cz0_ BK218, cz1_ BK218⟩ (fun hHeld => ?_)
   clear hK K
   refine no_ (some 9) ?_
   exact norm_ (by simp only [putAll, Act.put, sA_, sB_, sC_]) (hCont (.slice Ao9 t220.length co9, v224, v227, gb229) _ ⟨hHeld, (rw_ (Kd.R_mono HO222.out (fun _ hk => ⟨hk.1.2, hk.2⟩))), (rw_ (Kd.R_mono HO225.out (fun _ hk => ⟨hk.2, hk.1⟩))), (rw_ (Kd.R_mono HO228.out (fun _ hk => ⟨hk.2, hk.1⟩))), (kk_ BK218), (kk_ BK219), (kk_ BK229), GW229.out, GE229.out, NB218_229.out, NB229_218.out, NB219_229.out, NB229_219.out, hB_⟩)
 rintro ⟨v221, v224, v227, gb229⟩ w11 ⟨hS_, h0_, h1_, h2_, h3_, h4_, h5_, h6_, h7_, h8_, h9_, h10_, h11_, h12_⟩
 have n0_ : Aside0 (Kd.R (Kd.int .i64) 3 w11 w.heap.size (fun k_ => some k_ ≠ (v224 : Value).ownBlock ∧ some k_ ≠ (v227 : Value).ownBlock) v221 t220) := ⟨h0_⟩
 have n1_ : Aside0 (Kd.R (Kd.int .i64) 3 w11 w.heap.size (fun k_ => some k_ ≠ (v221 : Value).ownBlock ∧ some k_ ≠ (v227 : Value).ownBlock) v224 t223) := ⟨h1_⟩
 have n2_ : Aside0 (Kd.R (Kd.int .i64) 3 w11 w.heap.size (fun k_ => some k_ ≠ (v221 : Value).ownBlock ∧ some k_ ≠ (v224 : Value).ownBlock) v227 t226) := ⟨h2_⟩
 have n3_ : Aside0 (w11.heap[gb218]? = some (.cells #[.slice A0_0 l0_0.length c0_0, .slice A0_1 l0_1.length c0_1] 38 (0, 0))) := ⟨h3_⟩
 have n4_ : Aside0 (w11.heap[gb219]? = some (.cells #[.slice none 0 0, .slice none 0 0] 38 (0, 0))) := ⟨h4_⟩
 have n5_ : Aside0 (w11.heap[gb229]? = some (.cells #[.slice none 0 0, .slice none 0 0] 38 (0, 0))) := ⟨h5_⟩
 have n6_ : Aside0 (w.heap.size ≤ gb229) := ⟨h6_⟩
 have n7_ : Aside0 (w.heap.size ≤ gb229) := ⟨h7_⟩
 have n8_ : Aside0 (gb218 ≠ gb229) := ⟨h8_⟩
 have n9_ : Aside0 (gb229 ≠ gb218) := ⟨h9_⟩
 have n10_ : Aside0 (gb219 ≠ gb229) := ⟨h10_⟩
 have n11_ : Aside0 (gb229 ≠ gb219) := ⟨h11_⟩
 have n12_ : Aside0 (Below w.heap.size w w11) := ⟨h12_⟩
 clear BK218
 clear BK219
 clear HB
 clear h0_ h1_ h2_ h3_ h4_ h5_ h6_ h7_ h8_ h9_ h10_ h11_ h12_
 have HO222 := n0_
 have HO225 := n1_
 have HO228 := n2_
 have BK218 := n3_
 have BK219 := n4_
 have BK229 := n5_
 have GW229 := n6_
 have GE229 := n7_
 have NB218_229 := n8_
 have NB229_218 := n9_
 have NB219_229 := n10_
 have NB229_219 := n11_
 have HB := n12_
 clear n0_ n1_ n2_ n3_ n4_ n5_ n6_ n7_ n8_ n9_ n10_ n11_ n12_
 have hHeld : w11.cell? ⟨gb218, 0, none⟩ = some (.slice A0_0 l0_0.length c0_0) ∧ w11.cell? ⟨gb218, 1, none⟩ = some (.slice A0_1 l0_1.length c0_1) := hS_
 obtain ⟨Ao12, co12, eo12⟩ := Kd.R_slice HO225.out
 (first | subst eo12 | (injection eo12 with f1_ f2_ f3_; have f4_ := f1_.symm; have f5_ := f3_.symm; clear f1_ f2_ f3_; subst f4_; subst f5_))
 obtain ⟨Ao14, co14, eo14⟩ := Kd.R_slice HO228.out
 (first | subst eo14 | (injection eo14 with f1_ f2_ f3_; have f4_ := f1_.symm; have f5_ := f3_.symm; clear f1_ f2_ f3_; subst f4_; subst f5_))
 refine norm_ (a' := ?_) ?_ ?_
 rotate_left
 ·simp only [putAll, Act.put, sA_, sB_, sC_]
  rfl
 refine one_ (i := 5) (N := none) (bl_ 6 63) rfl rfl (by kernel_rfl) (by decide) (fun K hK => ?_)
 have hs13 : w11.cell? ⟨gb229, 0, none⟩ = some (.slice none 0 0) := cz0_ BK229
 have hfs13 := kD_ BK229.out 0
 have hns13_0 := NB218_229.out
 have hns13_1 := NB219_229.out
 have hms13_0 := NB229_218.out
 have hms13_1 := NB229_219.out
 have hs15 : w11.cell? ⟨gb229, 1, none⟩ = some (.slice none 0 0) := cz1_ BK229
 have hfs15 := kD_ BK229.out 1
 have hns15_0 := NB218_229.out
 have hns15_1 := NB219_229.out
 have hms15_0 := NB229_218.out
 have hms15_1 := NB229_219.out
 refine skip_ (w1 := ?_) (by rfl) rfl ?_ ?_
 rotate_left
 ·go_simp
  rfl
 refine hK.out _ _ ⟨((cell_far (p := ⟨gb229, _, none⟩) NB218_229.out _).trans (((cell_far (p := ⟨gb229, _, none⟩) NB218_229.out _).trans (hHeld.1)))), ((cell_far (p := ⟨gb229, _, none⟩) NB218_229.out _).trans (((cell_far (p := ⟨gb229, _, none⟩) NB218_229.out _).trans (hHeld.2))))⟩ (fun hHeld => ?_)
 clear hK K
 refine done_ (by kernel_rfl) ?_
 try go_wp2
 go_loopg [4] k (fun kq v4 w' => ∃ (x4_1 : Int) (x230000_1 : List Int) (x230001_1 : List Int) (u230000 : Value) (u230001 : Value), v4 = .int .i64 x4_1 ∧ Aside0 (Z54.l0 kq x4_1 l0_0 l0_1 x230000_1 x230001_1 = some (r1, r2)) ∧ Aside0 (kq ≤ k) ∧ Aside0 (Kd.R (Kd.int .i64) 3 w' w.heap.size (fun k_ => some k_ ≠ (u230001 : Value).ownBlock) u230000 x230000_1) ∧ Aside0 (Kd.R (Kd.int .i64) 3 w' w.heap.size (fun k_ => some k_ ≠ (u230000 : Value).ownBlock) u230001 x230001_1) ∧ Aside0 (w'.heap[gb218]? = some (.cells #[(.slice A0_0 l0_0.length c0_0), (.slice A0_1 l0_1.length c0_1)] 38 (0, 0))) ∧ Aside0 (w'.heap[gb219]? = some (.cells #[(.slice none 0 0), (.slice none 0 0)] 38 (0, 0))) ∧ Aside0 (w'.heap[gb229]? = some (.cells #[u230000, u230001] 38 (0, 0))) ∧ Aside0 (Below w.heap.size w w'))
 case atStart => exact ⟨(1), (t223), (t226), (.slice Ao12 t223.length co12), (.slice Ao14 t226.length co14), qc_, H', ⟨nA_ _⟩, ⟨(rw_ (Kd.R_mono (fa_ HO225 BK229) (fun _ hk => hk.2)))⟩, ⟨(rw_ (Kd.R_mono (fa_ HO228 BK229) (fun _ hk => hk.2)))⟩, ⟨by (with_reducible repeat (first | refine kA_ ?_ _ | refine kB_ ?_ | refine kC_ ?_ _)); refine blk_far ?_ NB218_229.out _; (with_reducible repeat (first | refine kA_ ?_ _ | refine kB_ ?_ | refine kC_ ?_ _)); refine blk_far ?_ NB218_229.out _; (with_reducible repeat (first | refine kA_ ?_ _ | refine kB_ ?_ | refine kC_ ?_ _)); exact BK218.out⟩, ⟨by (with_reducible repeat (first | refine kA_ ?_ _ | refine kB_ ?_ | refine kC_ ?_ _)); refine blk_far ?_ NB219_229.out _; (with_reducible repeat (first | refine kA_ ?_ _ | refine kB_ ?_ | refine kC_ ?_ _)); refine blk_far ?_ NB219_229.out _; (with_reducible repeat (first | refine kA_ ?_ _ | refine kB_ ?_ | refine kC_ ?_ _)); exact BK219.out⟩, ⟨qp_⟩, ⟨hB_⟩⟩
 case round =>
  clear H'
  obtain ⟨x4_1, x230000_1, x230001_1, u230000, u230001, rfl, HA, HK1, HO_230000, HO_230001, BK218, BK219, BK229, HB⟩ := hrel
  cases gk with
  | zero => exact absurd HA.out (by simp [Z54.l0])
  | succ k1 =>
   have H := HA.out
   clear HA
   simp only [Z54.l0] at H
   by_cases c16 : x4_1 < (l0_0.length : Int)
   ·rw [if_pos c16] at H
    have c16b0 := oC_ c16
    clear c16
    obtain ⟨t230, A17, H⟩ := bi_ H
    obtain ⟨⟨t233, t236⟩, A18, H⟩ := bi_ H
    try dsimp only at H
    obtain ⟨t240, A19, H⟩ := bi_ H
    by_cases c20 : t240 = true
    ·subst c20
     rw [if_pos rfl] at H
     have H' := A_ H
     clear H
     have hnb21 := NB218_219.out
     have hnc21 := NB219_218.out
     have hnb22 := NB218_229.out
     have hnc22 := NB229_218.out
     obtain ⟨hcz23_0, hcz23_1, hfz23_0, hfz23_1⟩ := c2_ BK218
     try go_wp2
     replace HO_230000 := A_ (rC_ HO_230000.out)
     replace HO_230001 := A_ (rC_ HO_230001.out)
     replace BK218 := A_ (kB_ BK218.out)
     replace BK219 := A_ (kB_ BK219.out)
     replace BK229 := A_ (kB_ BK229.out)
     replace HB := A_ (bC_ HB.out)
     refine start_ (n := 7) (S := fun w' => w'.cell? ⟨gb218, 0, none⟩ = some (.slice A0_0 l0_0.length c0_0) ∧ w'.cell? ⟨gb218, 1, none⟩ = some (.slice A0_1 l0_1.length c0_1)) (ds := []) (bl_ 7 0) (by kernel_rfl) rfl (by kernel_rfl) ⟨cz0_ BK218, cz1_ BK218⟩ (fun hHeld => ?_)
     generalize wr.drew = w24 at HO_230000 HO_230001 BK218 BK219 BK229 HB hHeld ⊢
     refine pure_ (i := 2) (N := some 19) (v := ?_) (a' := ?_) (bl_ 7 4) rfl rfl (by kernel_rfl) (fun _ _ _ h => h) (Or.inl ⟨by rfl, ?_⟩) ?_ ?_
     rotate_left
     ·intro w'
      go_simp
      with_reducible rfl
     rotate_left
     ·simp only [Act.put, sA_, sB_, sC_, i64_w, i32_w]
      rfl
     refine take_ (i := 0) (N := some 17) (v := ?_) (a' := ?_) (bl_ 7 5) rfl rfl (by kernel_rfl) (fun _ _ _ h => h) (Or.inl ⟨by rfl, ?_⟩) hHeld ?_ ?_
     rotate_left
     ·rintro w' ⟨s0, s1⟩
      go_simp
      with_reducible rfl
     rotate_left
     ·simp only [Act.put, sA_, sB_, sC_, i64_w, i32_w]
      rfl
     refine take_ (i := 1) (N := some 18) (v := ?_) (a' := ?_) (bl_ 7 7) rfl rfl (by kernel_rfl) (fun _ _ _ h => h) (Or.inl ⟨by rfl, ?_⟩) hHeld ?_ ?_
     rotate_left
     ·rintro w' ⟨s0, s1⟩
      go_simp
      with_reducible rfl
     rotate_left
     ·simp only [Act.put, sA_, sB_, sC_, i64_w, i32_w]
      rfl
     refine join_ (σ := Value × Value × Value × Nat) 1 (bl_ 7 63) (fun s_ => [(20, s_.1), (21, .agg #[s_.2.1, s_.2.2.1]), (5, .pointer (some ⟨s_.2.2.2, 0, none⟩))]) (fun s_ w' => (w'.cell? ⟨gb218, 0, none⟩ = some (.slice A0_0 l0_0.length c0_0) ∧ w'.cell? ⟨gb218, 1, none⟩ = some (.slice A0_1 l0_1.length c0_1)) ∧ (Kd.R (Kd.int .i64) 3 w' w.heap.size (fun k_ => some k_ ≠ (s_.2.1 : Value).ownBlock ∧ some k_ ≠ (s_.2.2.1 : Value).ownBlock ∧ some k_ ≠ (u230000 : Value).ownBlock ∧ some k_ ≠ (u230001 : Value).ownBlock) s_.1 t230) ∧ (Kd.R (Kd.int .i64) 3 w' w.heap.size (fun k_ => some k_ ≠ (s_.1 : Value).ownBlock ∧ some k_ ≠ (s_.2.2.1 : Value).ownBlock ∧ some k_ ≠ (u230000 : Value).ownBlock ∧ some k_ ≠ (u230001 : Value).ownBlock) s_.2.1 t233) ∧ (Kd.R (Kd.int .i64) 3 w' w.heap.size (fun k_ => some k_ ≠ (s_.1 : Value).ownBlock ∧ some k_ ≠ (s_.2.1 : Value).ownBlock ∧ some k_ ≠ (u230000 : Value).ownBlock ∧ some k_ ≠ (u230001 : Value).ownBlock) s_.2.2.1 t236) ∧ (Kd.R (Kd.int .i64) 3 w' w.heap.size (fun k_ => some k_ ≠ (s_.1 : Value).ownBlock ∧ some k_ ≠ (s_.2.1 : Value).ownBlock ∧ some k_ ≠ (s_.2.2.1 : Value).ownBlock ∧ some k_ ≠ (u230001 : Value).ownBlock) u230000 x230000_1) ∧ (Kd.R (Kd.int .i64) 3 w' w.heap.size (fun k_ => some k_ ≠ (s_.1 : Value).ownBlock ∧ some k_ ≠ (s_.2.1 : Value).ownBlock ∧ some k_ ≠ (s_.2.2.1 : Value).ownBlock ∧ some k_ ≠ (u230000 : Value).ownBlock) u230001 x230001_1) ∧ (w'.heap[gb218]? = some (.cells #[.slice A0_0 l0_0.length c0_0, .slice A0_1 l0_1.length c0_1] 38 (0, 0))) ∧ (w'.heap[gb219]? = some (.cells #[.slice none 0 0, .slice none 0 0] 38 (0, 0))) ∧ (w'.heap[gb229]? = some (.cells #[u230000, u230001] 38 (0, 0))) ∧ (w'.heap[s_.2.2.2]? = some (.cells #[.slice none 0 0, .slice none 0 0] 38 (0, 0))) ∧ (w.heap.size ≤ s_.2.2.2) ∧ (w.heap.size ≤ s_.2.2.2) ∧ (gb218 ≠ s_.2.2.2) ∧ (s_.2.2.2 ≠ gb218) ∧ (gb219 ≠ s_.2.2.2) ∧ (s_.2.2.2 ≠ gb219) ∧ (gb229 ≠ s_.2.2.2) ∧ (s_.2.2.2 ≠ gb229) ∧ (Below w.heap.size w w')) ?_ ?_
     rotate_left
     ·intro hCont
      refine two_ (i := 3) (j := 5) (Ni := some 20) (Nj := some 5) (bl_ 7 15) (bl_ 7 39) rfl rfl rfl rfl (by kernel_rfl) (by decide) (by decide) (fun K hK => ?_) (fun K hK => ?_)
      ·skip
       refine gO_ Tryz.func50 #[.agg #[.slice A0_0 l0_0.length c0_0, .slice A0_1 l0_1.length c0_1], .int .i64 x4_1] (by rfl) rfl rfl qa_ ?_
       with_reducible refine (Z55.calls k1 _ _ l0_0 _ _ l0_1 x4_1 t230 _ (cb_ HR0_0) HC0_0.out (cb_ HR0_1) HC0_1.out A17.out).mono ?_
       rintro e w25 ⟨v231, rfl, ho0, hb⟩
       refine ⟨_, rfl, ?_⟩
       have HO232 := A_ (rE_ (Kd.R_new' (Kd.R_new' ho0 (Kd.R_lt (rr_ HO_230000))) (Kd.R_lt (rr_ HO_230001))) (bF_ hB_))
       replace HO_230000 := A_ (Kd.R_elder' (rr_ HO_230000) (Kd.R_base ho0) hb)
       replace HO_230001 := A_ (Kd.R_elder' (rr_ HO_230001) (Kd.R_base ho0) hb)
       replace BK218 := bb_ BK218 hb
       replace BK219 := bb_ BK219 hb
       replace BK229 := bb_ BK229 hb
       replace HB := b1_ hb
       clear hb ho0
       obtain ⟨Ao26, co26, eo26⟩ := Kd.R_slice HO232.out
       (first | subst eo26 | (injection eo26 with f1_ f2_ f3_; have f4_ := f1_.symm; have f5_ := f3_.symm; clear f1_ f2_ f3_; subst f4_; subst f5_))
       refine hK.out _ _ ⟨cz0_ BK218, cz1_ BK218⟩ (fun hHeld => ?_)
       clear hK K
       refine no_ (some 20) ?_
       refine two_ (i := 4) (j := 5) (Ni := some 21) (Nj := some 5) (bl_ 7 31) (bl_ 7 47) rfl rfl rfl rfl (by kernel_rfl) (by decide) (by decide) (fun K hK => ?_) (fun K hK => ?_)
       ·skip
        refine gO_ Tryz.func49 #[.agg #[.slice A0_0 l0_0.length c0_0, .slice A0_1 l0_1.length c0_1], .slice Ao26 t230.length co26] (by rfl) rfl rfl qa_ ?_
        with_reducible refine (Z37.calls k1 _ _ l0_0 _ _ l0_1 _ _ t230 t233 t236 _ (cb_ HR0_0) HC0_0.out (cb_ HR0_1) HC0_1.out (cr_ HO232) ((Kd.R_reads' HO232.out).2.1) A18.out).mono ?_
        rintro e w27 ⟨v234, v237, rfl, ho0, ho1, hb⟩
        refine ⟨_, rfl, ?_⟩
        have HO235 := A_ (rE_ (Kd.R_new' (Kd.R_new' (Kd.R_new' ho0 (Kd.R_lt (rr_ HO_230000))) (Kd.R_lt (rr_ HO_230001))) (Kd.R_lt (rr_ HO232))) (bF_ hB_))
        have HO238 := A_ (rE_ (Kd.R_new' (Kd.R_new' (Kd.R_new' ho1 (Kd.R_lt (rr_ HO_230000))) (Kd.R_lt (rr_ HO_230001))) (Kd.R_lt (rr_ HO232))) (bF_ hB_))
        replace HO_230000 := A_ (Kd.R_mono (Kd.R_told (Kd.R_told (Kd.R_old (rr_ HO_230000) hb) (Kd.R_base ho0)) (Kd.R_base ho1)) (fun _ h_ => h_.1))
        replace HO_230001 := A_ (Kd.R_mono (Kd.R_told (Kd.R_told (Kd.R_old (rr_ HO_230001) hb) (Kd.R_base ho0)) (Kd.R_base ho1)) (fun _ h_ => h_.1))
        replace HO232 := A_ (Kd.R_mono (Kd.R_told (Kd.R_told (Kd.R_old (rr_ HO232) hb) (Kd.R_base ho0)) (Kd.R_base ho1)) (fun _ h_ => h_.1))
        replace BK218 := bb_ BK218 hb
        replace BK219 := bb_ BK219 hb
        replace BK229 := bb_ BK229 hb
        replace HB := b1_ hb
        clear hb ho0 ho1
        refine hK.out _ _ ⟨cz0_ BK218, cz1_ BK218⟩ (fun hHeld => ?_)
        clear hK K
        refine no_ (some 21) ?_
        refine one_ (i := 5) (N := some 5) (bl_ 7 63) rfl rfl (by kernel_rfl) (by decide) (fun K hK => ?_)
        refine box_step ?hg (N := 5) ?hd (cs := #[.slice none 0 0, .slice none 0 0]) (t := 38) ?hr ?_; (case hd => rfl); (case hg => rfl); (case hr => first | (go_simp; done) | (go_simp; rfl))
        intro gb239 hg w28 hbox hb
        replace HO_230000 := rb_ HO_230000 hb
        replace HO_230001 := rb_ HO_230001 hb
        replace HO232 := rb_ HO232 hb
        replace HO235 := rb_ HO235 hb
        replace HO238 := rb_ HO238 hb
        have BK239 := A_ hbox
        have GW239 := gw_ w hg
        have GE239 := GW239
        replace HB := b1_ hb
        have NB218_239 := gN_ BK218 hg
        have NB239_218 := gP_ BK218 hg
        replace BK218 := bb_ BK218 hb
        have NB219_239 := gN_ BK219 hg
        have NB239_219 := gP_ BK219 hg
        replace BK219 := bb_ BK219 hb
        have NB229_239 := gN_ BK229 hg
        have NB239_229 := gP_ BK229 hg
        replace BK229 := bb_ BK229 hb
        clear hb hbox hg
        refine hK.out _ _ ⟨cz0_ BK218, cz1_ BK218⟩ (fun hHeld => ?_)
        clear hK K
        refine no_ (some 5) ?_
        exact norm_ (by simp only [putAll, Act.put, sA_, sB_, sC_]) (hCont (.slice Ao26 t230.length co26, v234, v237, gb239) _ ⟨hHeld, (rw_ (Kd.R_mono HO232.out (fun _ hk => ⟨hk.1.2, ⟨hk.2, ⟨hk.1.1.1.2, hk.1.1.2⟩⟩⟩))), (rw_ (Kd.R_mono HO235.out (fun _ hk => ⟨hk.2, ⟨hk.1.1.1, ⟨hk.1.1.2, hk.1.2⟩⟩⟩))), (rw_ (Kd.R_mono HO238.out (fun _ hk => ⟨hk.2, ⟨hk.1.1.1, ⟨hk.1.1.2, hk.1.2⟩⟩⟩))), (rw_ (Kd.R_mono HO_230000.out (fun _ hk => ⟨hk.1.1.2, ⟨hk.1.2, ⟨hk.2, hk.1.1.1⟩⟩⟩))), (rw_ (Kd.R_mono HO_230001.out (fun _ hk => ⟨hk.1.1.2, ⟨hk.1.2, ⟨hk.2, hk.1.1.1⟩⟩⟩))), (kk_ BK218), (kk_ BK219), (kk_ BK229), (kk_ BK239), GW239.out, GE239.out, NB218_239.out, NB239_218.out, NB219_239.out, NB239_219.out, NB229_239.out, NB239_229.out, hB_⟩)
       ·skip
        refine box_step ?hg (N := 5) ?hd (cs := #[.slice none 0 0, .slice none 0 0]) (t := 38) ?hr ?_; (case hd => rfl); (case hg => rfl); (case hr => first | (go_simp; done) | (go_simp; rfl))
        intro gb239 hg w26 hbox hb
        replace HO_230000 := rb_ HO_230000 hb
        replace HO_230001 := rb_ HO_230001 hb
        replace HO232 := rb_ HO232 hb
        have BK239 := A_ hbox
        have GW239 := gw_ w hg
        have GE239 := GW239
        replace HB := b1_ hb
        have NB218_239 := gN_ BK218 hg
        have NB239_218 := gP_ BK218 hg
        replace BK218 := bb_ BK218 hb
        have NB219_239 := gN_ BK219 hg
        have NB239_219 := gP_ BK219 hg
        replace BK219 := bb_ BK219 hb
        have NB229_239 := gN_ BK229 hg
        have NB239_229 := gP_ BK229 hg
        replace BK229 := bb_ BK229 hb
        clear hb hbox hg
        obtain ⟨Ao27, co27, eo27⟩ := Kd.R_slice HO232.out
        (first | subst eo27 | (injection eo27 with f1_ f2_ f3_; have f4_ := f1_.symm; have f5_ := f3_.symm; clear f1_ f2_ f3_; subst f4_; subst f5_))
        refine hK.out _ _ ⟨cz0_ BK218, cz1_ BK218⟩ (fun hHeld => ?_)
        clear hK K
        refine no_ (some 5) ?_
        refine one_ (i := 4) (N := some 21) (bl_ 7 63) rfl rfl (by kernel_rfl) (by decide) (fun K hK => ?_)
        refine gO_ Tryz.func49 #[.agg #[.slice A0_0 l0_0.length c0_0, .slice A0_1 l0_1.length c0_1], .slice Ao27 t230.length co27] (by rfl) rfl rfl qa_ ?_
        with_reducible refine (Z37.calls k1 _ _ l0_0 _ _ l0_1 _ _ t230 t233 t236 _ (cb_ HR0_0) HC0_0.out (cb_ HR0_1) HC0_1.out (cr_ HO232) ((Kd.R_reads' HO232.out).2.1) A18.out).mono ?_
        rintro e w28 ⟨v234, v237, rfl, ho0, ho1, hb⟩
        refine ⟨_, rfl, ?_⟩
        have HO235 := A_ (rE_ (Kd.R_new' (Kd.R_new' (Kd.R_new' ho0 (Kd.R_lt (rr_ HO_230000))) (Kd.R_lt (rr_ HO_230001))) (Kd.R_lt (rr_ HO232))) (bF_ hB_))
        have HO238 := A_ (rE_ (Kd.R_new' (Kd.R_new' (Kd.R_new' ho1 (Kd.R_lt (rr_ HO_230000))) (Kd.R_lt (rr_ HO_230001))) (Kd.R_lt (rr_ HO232))) (bF_ hB_))
        replace HO_230000 := A_ (Kd.R_mono (Kd.R_told (Kd.R_told (Kd.R_old (rr_ HO_230000) hb) (Kd.R_base ho0)) (Kd.R_base ho1)) (fun _ h_ => h_.1))
        replace HO_230001 := A_ (Kd.R_mono (Kd.R_told (Kd.R_told (Kd.R_old (rr_ HO_230001) hb) (Kd.R_base ho0)) (Kd.R_base ho1)) (fun _ h_ => h_.1))
        replace HO232 := A_ (Kd.R_mono (Kd.R_told (Kd.R_told (Kd.R_old (rr_ HO232) hb) (Kd.R_base ho0)) (Kd.R_base ho1)) (fun _ h_ => h_.1))
        replace BK218 := bb_ BK218 hb
        replace BK219 := bb_ BK219 hb
        replace BK229 := bb_ BK229 hb
        replace BK239 := bb_ BK239 hb
        replace HB := b1_ hb
        clear hb ho0 ho1
        refine hK.out _ _ ⟨cz0_ BK218, cz1_ BK218⟩ (fun hHeld => ?_)
        clear hK K
        refine no_ (some 21) ?_
        exact norm_ (by simp only [putAll, Act.put, sA_, sB_, sC_]) (hCont (.slice Ao27 t230.length co27, v234, v237, gb239) _ ⟨hHeld, (rw_ (Kd.R_mono HO232.out (fun _ hk => ⟨hk.1.2, ⟨hk.2, ⟨hk.1.1.1.2, hk.1.1.2⟩⟩⟩))), (rw_ (Kd.R_mono HO235.out (fun _ hk => ⟨hk.2, ⟨hk.1.1.1, ⟨hk.1.1.2, hk.1.2⟩⟩⟩))), (rw_ (Kd.R_mono HO238.out (fun _ hk => ⟨hk.2, ⟨hk.1.1.1, ⟨hk.1.1.2, hk.1.2⟩⟩⟩))), (rw_ (Kd.R_mono HO_230000.out (fun _ hk => ⟨hk.1.1.2, ⟨hk.1.2, ⟨hk.2, hk.1.1.1⟩⟩⟩))), (rw_ (Kd.R_mono HO_230001.out (fun _ hk => ⟨hk.1.1.2, ⟨hk.1.2, ⟨hk.2, hk.1.1.1⟩⟩⟩))), (kk_ BK218), (kk_ BK219), (kk_ BK229), (kk_ BK239), GW239.out, GE239.out, NB218_239.out, NB239_218.out, NB219_239.out, NB239_219.out, NB229_239.out, NB239_229.out, hB_⟩)
      ·skip
       refine box_step ?hg (N := 5) ?hd (cs := #[.slice none 0 0, .slice none 0 0]) (t := 38) ?hr ?_; (case hd => rfl); (case hg => rfl); (case hr => first | (go_simp; done) | (go_simp; rfl))
       intro gb239 hg w25 hbox hb
       replace HO_230000 := rb_ HO_230000 hb
       replace HO_230001 := rb_ HO_230001 hb
       have BK239 := A_ hbox
       have GW239 := gw_ w hg
       have GE239 := GW239
       replace HB := b1_ hb
       have NB218_239 := gN_ BK218 hg
       have NB239_218 := gP_ BK218 hg
       replace BK218 := bb_ BK218 hb
       have NB219_239 := gN_ BK219 hg
       have NB239_219 := gP_ BK219 hg
       replace BK219 := bb_ BK219 hb
       have NB229_239 := gN_ BK229 hg
       have NB239_229 := gP_ BK229 hg
       replace BK229 := bb_ BK229 hb
       clear hb hbox hg
       refine hK.out _ _ ⟨cz0_ BK218, cz1_ BK218⟩ (fun hHeld => ?_)
       clear hK K
       refine no_ (some 5) ?_
       refine one_ (i := 3) (N := some 20) (bl_ 7 47) rfl rfl (by kernel_rfl) (by decide) (fun K hK => ?_)
       refine gO_ Tryz.func50 #[.agg #[.slice A0_0 l0_0.length c0_0, .slice A0_1 l0_1.length c0_1], .int .i64 x4_1] (by rfl) rfl rfl qa_ ?_
       with_reducible refine (Z55.calls k1 _ _ l0_0 _ _ l0_1 x4_1 t230 _ (cb_ HR0_0) HC0_0.out (cb_ HR0_1) HC0_1.out A17.out).mono ?_
       rintro e w26 ⟨v231, rfl, ho0, hb⟩
       refine ⟨_, rfl, ?_⟩
       have HO232 := A_ (rE_ (Kd.R_new' (Kd.R_new' ho0 (Kd.R_lt (rr_ HO_230000))) (Kd.R_lt (rr_ HO_230001))) (bF_ hB_))
       replace HO_230000 := A_ (Kd.R_elder' (rr_ HO_230000) (Kd.R_base ho0) hb)
       replace HO_230001 := A_ (Kd.R_elder' (rr_ HO_230001) (Kd.R_base ho0) hb)
       replace BK218 := bb_ BK218 hb
       replace BK219 := bb_ BK219 hb
       replace BK229 := bb_ BK229 hb
       replace BK239 := bb_ BK239 hb
       replace HB := b1_ hb
       clear hb ho0
       obtain ⟨Ao27, co27, eo27⟩ := Kd.R_slice HO232.out
       (first | subst eo27 | (injection eo27 with f1_ f2_ f3_; have f4_ := f1_.symm; have f5_ := f3_.symm; clear f1_ f2_ f3_; subst f4_; subst f5_))
       refine hK.out _ _ ⟨cz0_ BK218, cz1_ BK218⟩ (fun hHeld => ?_)
       clear hK K
       refine no_ (some 20) ?_
       refine one_ (i := 4) (N := some 21) (bl_ 7 63) rfl rfl (by kernel_rfl) (by decide) (fun K hK => ?_)
       refine gO_ Tryz.func49 #[.agg #[.slice A0_0 l0_0.length c0_0, .slice A0_1 l0_1.length c0_1], .slice Ao27 t230.length co27] (by rfl) rfl rfl qa_ ?_
       with_reducible refine (Z37.calls k1 _ _ l0_0 _ _ l0_1 _ _ t230 t233 t236 _ (cb_ HR0_0) HC0_0.out (cb_ HR0_1) HC0_1.out (cr_ HO232) ((Kd.R_reads' HO232.out).2.1) A18.out).mono ?_
       rintro e w28 ⟨v234, v237, rfl, ho0, ho1, hb⟩
       refine ⟨_, rfl, ?_⟩
       have HO235 := A_ (rE_ (Kd.R_new' (Kd.R_new' (Kd.R_new' ho0 (Kd.R_lt (rr_ HO_230000))) (Kd.R_lt (rr_ HO_230001))) (Kd.R_lt (rr_ HO232))) (bF_ hB_))
       have HO238 := A_ (rE_ (Kd.R_new' (Kd.R_new' (Kd.R_new' ho1 (Kd.R_lt (rr_ HO_230000))) (Kd.R_lt (rr_ HO_230001))) (Kd.R_lt (rr_ HO232))) (bF_ hB_))
       replace HO_230000 := A_ (Kd.R_mono (Kd.R_told (Kd.R_told (Kd.R_old (rr_ HO_230000) hb) (Kd.R_base ho0)) (Kd.R_base ho1)) (fun _ h_ => h_.1))
       replace HO_230001 := A_ (Kd.R_mono (Kd.R_told (Kd.R_told (Kd.R_old (rr_ HO_230001) hb) (Kd.R_base ho0)) (Kd.R_base ho1)) (fun _ h_ => h_.1))
       replace HO232 := A_ (Kd.R_mono (Kd.R_told (Kd.R_told (Kd.R_old (rr_ HO232) hb) (Kd.R_base ho0)) (Kd.R_base ho1)) (fun _ h_ => h_.1))
       replace BK218 := bb_ BK218 hb
       replace BK219 := bb_ BK219 hb
       replace BK229 := bb_ BK229 hb
       replace BK239 := bb_ BK239 hb
       replace HB := b1_ hb
       clear hb ho0 ho1
       refine hK.out _ _ ⟨cz0_ BK218, cz1_ BK218⟩ (fun hHeld => ?_)
       clear hK K
       refine no_ (some 21) ?_
       exact norm_ (by simp only [putAll, Act.put, sA_, sB_, sC_]) (hCont (.slice Ao27 t230.length co27, v234, v237, gb239) _ ⟨hHeld, (rw_ (Kd.R_mono HO232.out (fun _ hk => ⟨hk.1.2, ⟨hk.2, ⟨hk.1.1.1.2, hk.1.1.2⟩⟩⟩))), (rw_ (Kd.R_mono HO235.out (fun _ hk => ⟨hk.2, ⟨hk.1.1.1, ⟨hk.1.1.2, hk.1.2⟩⟩⟩))), (rw_ (Kd.R_mono HO238.out (fun _ hk => ⟨hk.2, ⟨hk.1.1.1, ⟨hk.1.1.2, hk.1.2⟩⟩⟩))), (rw_ (Kd.R_mono HO_230000.out (fun _ hk => ⟨hk.1.1.2, ⟨hk.1.2, ⟨hk.2, hk.1.1.1⟩⟩⟩))), (rw_ (Kd.R_mono HO_230001.out (fun _ hk => ⟨hk.1.1.2, ⟨hk.1.2, ⟨hk.2, hk.1.1.1⟩⟩⟩))), (kk_ BK218), (kk_ BK219), (kk_ BK229), (kk_ BK239), GW239.out, GE239.out, NB218_239.out, NB239_218.out, NB219_239.out, NB239_219.out, NB229_239.out, NB239_229.out, hB_⟩)
     rintro ⟨v231, v234, v237, gb239⟩ w29 ⟨hS_, h0_, h1_, h2_, h3_, h4_, h5_, h6_, h7_, h8_, h9_, h10_, h11_, h12_, h13_, h14_, h15_, h16_, h17_⟩
     have n0_ : Aside0 (Kd.R (Kd.int .i64) 3 w29 w.heap.size (fun k_ => some k_ ≠ (v234 : Value).ownBlock ∧ some k_ ≠ (v237 : Value).ownBlock ∧ some k_ ≠ (u230000 : Value).ownBlock ∧ some k_ ≠ (u230001 : Value).ownBlock) v231 t230) := ⟨h0_⟩
     have n1_ : Aside0 (Kd.R (Kd.int .i64) 3 w29 w.heap.size (fun k_ => some k_ ≠ (v231 : Value).ownBlock ∧ some k_ ≠ (v237 : Value).ownBlock ∧ some k_ ≠ (u230000 : Value).ownBlock ∧ some k_ ≠ (u230001 : Value).ownBlock) v234 t233) := ⟨h1_⟩
     have n2_ : Aside0 (Kd.R (Kd.int .i64) 3 w29 w.heap.size (fun k_ => some k_ ≠ (v231 : Value).ownBlock ∧ some k_ ≠ (v234 : Value).ownBlock ∧ some k_ ≠ (u230000 : Value).ownBlock ∧ some k_ ≠ (u230001 : Value).ownBlock) v237 t236) := ⟨h2_⟩
     have n3_ : Aside0 (Kd.R (Kd.int .i64) 3 w29 w.heap.size (fun k_ => some k_ ≠ (v231 : Value).ownBlock ∧ some k_ ≠ (v234 : Value).ownBlock ∧ some k_ ≠ (v237 : Value).ownBlock ∧ some k_ ≠ (u230001 : Value).ownBlock) u230000 x230000_1) := ⟨h3_⟩
     have n4_ : Aside0 (Kd.R (Kd.int .i64) 3 w29 w.heap.size (fun k_ => some k_ ≠ (v231 : Value).ownBlock ∧ some k_ ≠ (v234 : Value).ownBlock ∧ some k_ ≠ (v237 : Value).ownBlock ∧ some k_ ≠ (u230000 : Value).ownBlock) u230001 x230001_1) := ⟨h4_⟩
     have n5_ : Aside0 (w29.heap[gb218]? = some (.cells #[.slice A0_0 l0_0.length c0_0, .slice A0_1 l0_1.length c0_1] 38 (0, 0))) := ⟨h5_⟩
     have n6_ : Aside0 (w29.heap[gb219]? = some (.cells #[.slice none 0 0, .slice none 0 0] 38 (0, 0))) := ⟨h6_⟩
     have n7_ : Aside0 (w29.heap[gb229]? = some (.cells #[u230000, u230001] 38 (0, 0))) := ⟨h7_⟩
     have n8_ : Aside0 (w29.heap[gb239]? = some (.cells #[.slice none 0 0, .slice none 0 0] 38 (0, 0))) := ⟨h8_⟩
     have n9_ : Aside0 (w.heap.size ≤ gb239) := ⟨h9_⟩
     have n10_ : Aside0 (w.heap.size ≤ gb239) := ⟨h10_⟩
     have n11_ : Aside0 (gb218 ≠ gb239) := ⟨h11_⟩
     have n12_ : Aside0 (gb239 ≠ gb218) := ⟨h12_⟩
     have n13_ : Aside0 (gb219 ≠ gb239) := ⟨h13_⟩
     have n14_ : Aside0 (gb239 ≠ gb219) := ⟨h14_⟩
     have n15_ : Aside0 (gb229 ≠ gb239) := ⟨h15_⟩
     have n16_ : Aside0 (gb239 ≠ gb229) := ⟨h16_⟩
     have n17_ : Aside0 (Below w.heap.size w w29) := ⟨h17_⟩
     clear HO_230000
     clear HO_230001
     clear BK218
     clear BK219
     clear BK229
     clear HB
     clear h0_ h1_ h2_ h3_ h4_ h5_ h6_ h7_ h8_ h9_ h10_ h11_ h12_ h13_ h14_ h15_ h16_ h17_
     have HO232 := n0_
     have HO235 := n1_
     have HO238 := n2_
     have HO_230000 := n3_
     have HO_230001 := n4_
     have BK218 := n5_
     have BK219 := n6_
     have BK229 := n7_
     have BK239 := n8_
     have GW239 := n9_
     have GE239 := n10_
     have NB218_239 := n11_
     have NB239_218 := n12_
     have NB219_239 := n13_
     have NB239_219 := n14_
     have NB229_239 := n15_
     have NB239_229 := n16_
     have HB := n17_
     clear n0_ n1_ n2_ n3_ n4_ n5_ n6_ n7_ n8_ n9_ n10_ n11_ n12_ n13_ n14_ n15_ n16_ n17_
     have hHeld : w29.cell? ⟨gb218, 0, none⟩ = some (.slice A0_0 l0_0.length c0_0) ∧ w29.cell? ⟨gb218, 1, none⟩ = some (.slice A0_1 l0_1.length c0_1) := hS_
     obtain ⟨Ao30, co30, eo30⟩ := Kd.R_slice HO235.out
     (first | subst eo30 | (injection eo30 with f1_ f2_ f3_; have f4_ := f1_.symm; have f5_ := f3_.symm; clear f1_ f2_ f3_; subst f4_; subst f5_))
     obtain ⟨Ao32, co32, eo32⟩ := Kd.R_slice HO238.out
     (first | subst eo32 | (injection eo32 with f1_ f2_ f3_; have f4_ := f1_.symm; have f5_ := f3_.symm; clear f1_ f2_ f3_; subst f4_; subst f5_))
     refine norm_ (a' := ?_) ?_ ?_
     rotate_left
     ·simp only [putAll, Act.put, sA_, sB_, sC_]
      rfl
     refine one_ (i := 6) (N := none) (bl_ 7 127) rfl rfl (by kernel_rfl) (by decide) (fun K hK => ?_)
     have hs31 : w29.cell? ⟨gb239, 0, none⟩ = some (.slice none 0 0) := cz0_ BK239
     have hfs31 := kD_ BK239.out 0
     have hns31_0 := NB218_239.out
     have hns31_1 := NB219_239.out
     have hns31_2 := NB229_239.out
     have hms31_0 := NB239_218.out
     have hms31_1 := NB239_219.out
     have hms31_2 := NB239_229.out
     have hs33 : w29.cell? ⟨gb239, 1, none⟩ = some (.slice none 0 0) := cz1_ BK239
     have hfs33 := kD_ BK239.out 1
     have hns33_0 := NB218_239.out
     have hns33_1 := NB219_239.out
     have hns33_2 := NB229_239.out
     have hms33_0 := NB239_218.out
     have hms33_1 := NB239_219.out
     have hms33_2 := NB239_229.out
     refine skip_ (w1 := ?_) (by rfl) rfl ?_ ?_
     rotate_left
     ·go_simp
      rfl
     refine hK.out _ _ ⟨((cell_far (p := ⟨gb239, _, none⟩) NB218_239.out _).trans (((cell_far (p := ⟨gb239, _, none⟩) NB218_239.out _).trans (hHeld.1)))), ((cell_far (p := ⟨gb239, _, none⟩) NB218_239.out _).trans (((cell_far (p := ⟨gb239, _, none⟩) NB218_239.out _).trans (hHeld.2))))⟩ (fun hHeld => ?_)
     clear hK K
     refine done_ (by kernel_rfl) ?_
     have hnb34 := NB239_218.out
     have hnc34 := NB218_239.out
     have hnb35 := NB239_219.out
     have hnc35 := NB219_239.out
     have hnb36 := NB239_229.out
     have hnc36 := NB229_239.out
     obtain ⟨hcz37_0, hcz37_1, hfz37_0, hfz37_1⟩ := c2_ BK239
     have hnb38 := NB229_219.out
     have hnc38 := NB219_229.out
     obtain ⟨hcz39_0, hcz39_1, hfz39_0, hfz39_1⟩ := c2_ BK229
     obtain ⟨Ao40, co40, eo40⟩ := Kd.R_slice HO_230000.out
     subst eo40
     obtain ⟨Ao41, co41, eo41⟩ := Kd.R_slice HO_230001.out
     subst eo41
     try go_wp2_with (first | ((with_reducible refine gA_ (f := 48) rfl ?_); refine gL_ (some 24) Tryz.func48 #[.agg #[.slice Ao30 t233.length co30, .slice Ao32 t236.length co32], .agg #[.slice Ao40 x230000_1.length co40, .slice Ao41 x230001_1.length co41]] rfl qa_ ?_; (with_reducible refine (Z36.calls k1 _ _ t233 _ _ t236 _ _ x230000_1 _ _ x230001_1 true _ ?side1 ?side2 ?side3 ?side4 ?side5 ?side6 ?side7 ?side8 A19.out).mono ?_); (case side1 => refine (Kd.R_reads' (e := 3) (base := w.heap.size) (ok := fun k_ => (some k_ ≠ (v231 : Value).ownBlock ∧ (some k_ ≠ (.slice Ao32 t236.length co32 : Value).ownBlock ∧ (some k_ ≠ (.slice Ao40 x230000_1.length co40 : Value).ownBlock ∧ some k_ ≠ (.slice Ao41 x230001_1.length co41 : Value).ownBlock)))) (n := t233.length) (c := co30) ?_).2.2; exact (rw_ (fa_ HO235 BK239))); (case side2 => exact (Kd.R_reads' HO235.out).2.1); (case side3 => refine (Kd.R_reads' (e := 3) (base := w.heap.size) (ok := fun k_ => (some k_ ≠ (v231 : Value).ownBlock ∧ (some k_ ≠ (.slice Ao30 t233.length co30 : Value).ownBlock ∧ (some k_ ≠ (.slice Ao40 x230000_1.length co40 : Value).ownBlock ∧ some k_ ≠ (.slice Ao41 x230001_1.length co41 : Value).ownBlock)))) (n := t236.length) (c := co32) ?_).2.2; exact (rw_ (fa_ HO238 BK239))); (case side4 => exact (Kd.R_reads' HO238.out).2.1); (case side5 => refine (Kd.R_reads' (e := 3) (base := w.heap.size) (ok := fun k_ => (some k_ ≠ (v231 : Value).ownBlock ∧ (some k_ ≠ (.slice Ao30 t233.length co30 : Value).ownBlock ∧ (some k_ ≠ (.slice Ao32 t236.length co32 : Value).ownBlock ∧ some k_ ≠ (.slice Ao41 x230001_1.length co41 : Value).ownBlock)))) (n := x230000_1.length) (c := co40) ?_).2.2; exact (rw_ (fa_ HO_230000 BK239))); (case side6 => exact (Kd.R_reads' HO_230000.out).2.1); (case side7 => refine (Kd.R_reads' (e := 3) (base := w.heap.size) (ok := fun k_ => (some k_ ≠ (v231 : Value).ownBlock ∧ (some k_ ≠ (.slice Ao30 t233.length co30 : Value).ownBlock ∧ (some k_ ≠ (.slice Ao32 t236.length co32 : Value).ownBlock ∧ some k_ ≠ (.slice Ao40 x230000_1.length co40 : Value).ownBlock)))) (n := x230001_1.length) (c := co41) ?_).2.2; exact (rw_ (fa_ HO_230001 BK239))); (case side8 => exact (Kd.R_reads' HO_230001.out).2.1); rintro e w42 ⟨rfl, hb⟩; refine ⟨_, rfl, ?_⟩; replace HO_230000 := A_ (rD_ (rw_ (fa_ HO_230000 BK239)) hb); replace HO_230001 := A_ (rD_ (rw_ (fa_ HO_230001 BK239)) hb); replace HO232 := A_ (rD_ (rw_ (fa_ HO232 BK239)) hb); replace HO235 := A_ (rD_ (rw_ (fa_ HO235 BK239)) hb); replace HO238 := A_ (rD_ (rw_ (fa_ HO238 BK239)) hb); replace BK218 := A_ (kE_ (g := gb218) (o := .cells #[.slice A0_0 l0_0.length c0_0, .slice A0_1 l0_1.length c0_1] 38 (0, 0)) (by (with_reducible repeat (first | refine kA_ ?_ _ | refine kB_ ?_ | refine kC_ ?_ _)); refine blk_far ?_ NB218_239.out _; (with_reducible repeat (first | refine kA_ ?_ _ | refine kB_ ?_ | refine kC_ ?_ _)); refine blk_far ?_ NB218_239.out _; (with_reducible repeat (first | refine kA_ ?_ _ | refine kB_ ?_ | refine kC_ ?_ _)); exact BK218.out) hb); replace BK219 := A_ (kE_ (g := gb219) (o := .cells #[.slice none 0 0, .slice none 0 0] 38 (0, 0)) (by (with_reducible repeat (first | refine kA_ ?_ _ | refine kB_ ?_ | refine kC_ ?_ _)); refine blk_far ?_ NB219_239.out _; (with_reducible repeat (first | refine kA_ ?_ _ | refine kB_ ?_ | refine kC_ ?_ _)); refine blk_far ?_ NB219_239.out _; (with_reducible repeat (first | refine kA_ ?_ _ | refine kB_ ?_ | refine kC_ ?_ _)); exact BK219.out) hb); replace BK229 := A_ (kE_ (g := gb229) (o := .cells #[.slice Ao40 x230000_1.length co40, .slice Ao41 x230001_1.length co41] 38 (0, 0)) (by (with_reducible repeat (first | refine kA_ ?_ _ | refine kB_ ?_ | refine kC_ ?_ _)); refine blk_far ?_ NB229_239.out _; (with_reducible repeat (first | refine kA_ ?_ _ | refine kB_ ?_ | refine kC_ ?_ _)); refine blk_far ?_ NB229_239.out _; (with_reducible repeat (first | refine kA_ ?_ _ | refine kB_ ?_ | refine kC_ ?_ _)); exact BK229.out) hb); replace BK239 := A_ (kE_ (g := gb239) (o := .cells #[.slice Ao30 t233.length co30, .slice Ao32 t236.length co32] 38 (0, 0)) qp_ hb); replace HB := b1_ hb; clear hb; obtain ⟨hcz43_0, hcz43_1, hfz43_0, hfz43_1⟩ := c2_ BK239; obtain ⟨hcz44_0, hcz44_1, hfz44_0, hfz44_1⟩ := c2_ BK229))
     go_roundg k1
     case measure => have := HK1.out; omega
     case rel => exact ⟨(wrap64 (x4_1 + 1)), (t233), (t236), (.slice Ao30 t233.length co30), (.slice Ao32 t236.length co32), qc_, H', ⟨by have := HK1.out; omega⟩, ⟨(rw_ (Kd.R_mono (fa_ HO235 BK229) (fun _ hk => hk.2.1)))⟩, ⟨(rw_ (Kd.R_mono (fa_ HO238 BK229) (fun _ hk => hk.2.1)))⟩, ⟨by (with_reducible repeat (first | refine kA_ ?_ _ | refine kB_ ?_ | refine kC_ ?_ _)); refine blk_far ?_ NB218_229.out _; (with_reducible repeat (first | refine kA_ ?_ _ | refine kB_ ?_ | refine kC_ ?_ _)); refine blk_far ?_ NB218_229.out _; (with_reducible repeat (first | refine kA_ ?_ _ | refine kB_ ?_ | refine kC_ ?_ _)); exact BK218.out⟩, ⟨by (with_reducible repeat (first | refine kA_ ?_ _ | refine kB_ ?_ | refine kC_ ?_ _)); refine blk_far ?_ NB219_229.out _; (with_reducible repeat (first | refine kA_ ?_ _ | refine kB_ ?_ | refine kC_ ?_ _)); refine blk_far ?_ NB219_229.out _; (with_reducible repeat (first | refine kA_ ?_ _ | refine kB_ ?_ | refine kC_ ?_ _)); exact BK219.out⟩, ⟨qp_⟩, ⟨hB_⟩⟩
    ·replace c20 := Bool.eq_false_iff.mpr c20
     subst c20
     have H1 : (Z54.l0 k1 (wrap64 (x4_1 + 1)) l0_0 l0_1 x230000_1 x230001_1) = some (r1, r2) := by rw [if_neg (show ¬ (false = true) by decide)] at H; exact H
     clear H
     have H := H1
     clear H1
     have H' := A_ H
     clear H
     have hnb45 := NB218_219.out
     have hnc45 := NB219_218.out
     have hnb46 := NB218_229.out
     have hnc46 := NB229_218.out
     obtain ⟨hcz47_0, hcz47_1, hfz47_0, hfz47_1⟩ := c2_ BK218
     try go_wp2
     replace HO_230000 := A_ (rC_ HO_230000.out)
     replace HO_230001 := A_ (rC_ HO_230001.out)
     replace BK218 := A_ (kB_ BK218.out)
     replace BK219 := A_ (kB_ BK219.out)
     replace BK229 := A_ (kB_ BK229.out)
     replace HB := A_ (bC_ HB.out)
     refine start_ (n := 7) (S := fun w' => w'.cell? ⟨gb218, 0, none⟩ = some (.slice A0_0 l0_0.length c0_0) ∧ w'.cell? ⟨gb218, 1, none⟩ = some (.slice A0_1 l0_1.length c0_1)) (ds := []) (bl_ 7 0) (by kernel_rfl) rfl (by kernel_rfl) ⟨cz0_ BK218, cz1_ BK218⟩ (fun hHeld => ?_)
     generalize wr.drew = w48 at HO_230000 HO_230001 BK218 BK219 BK229 HB hHeld ⊢
     refine pure_ (i := 2) (N := some 19) (v := ?_) (a' := ?_) (bl_ 7 4) rfl rfl (by kernel_rfl) (fun _ _ _ h => h) (Or.inl ⟨by rfl, ?_⟩) ?_ ?_
     rotate_left
     ·intro w'
      go_simp
      with_reducible rfl
     rotate_left
     ·simp only [Act.put, sA_, sB_, sC_, i64_w, i32_w]
      rfl
     refine take_ (i := 0) (N := some 17) (v := ?_) (a' := ?_) (bl_ 7 5) rfl rfl (by kernel_rfl) (fun _ _ _ h => h) (Or.inl ⟨by rfl, ?_⟩) hHeld ?_ ?_
     rotate_left
     ·rintro w' ⟨s0, s1⟩
      go_simp
      with_reducible rfl
     rotate_left
     ·simp only [Act.put, sA_, sB_, sC_, i64_w, i32_w]
      rfl
     refine take_ (i := 1) (N := some 18) (v := ?_) (a' := ?_) (bl_ 7 7) rfl rfl (by kernel_rfl) (fun _ _ _ h => h) (Or.inl ⟨by rfl, ?_⟩) hHeld ?_ ?_
     rotate_left
     ·rintro w' ⟨s0, s1⟩
      go_simp
      with_reducible rfl
     rotate_left
     ·simp only [Act.put, sA_, sB_, sC_, i64_w, i32_w]
      rfl
     refine join_ (σ := Value × Value × Value × Nat) 1 (bl_ 7 63) (fun s_ => [(20, s_.1), (21, .agg #[s_.2.1, s_.2.2.1]), (5, .pointer (some ⟨s_.2.2.2, 0, none⟩))]) (fun s_ w' => (w'.cell? ⟨gb218, 0, none⟩ = some (.slice A0_0 l0_0.length c0_0) ∧ w'.cell? ⟨gb218, 1, none⟩ = some (.slice A0_1 l0_1.length c0_1)) ∧ (Kd.R (Kd.int .i64) 3 w' w.heap.size (fun k_ => some k_ ≠ (s_.2.1 : Value).ownBlock ∧ some k_ ≠ (s_.2.2.1 : Value).ownBlock ∧ some k_ ≠ (u230000 : Value).ownBlock ∧ some k_ ≠ (u230001 : Value).ownBlock) s_.1 t230) ∧ (Kd.R (Kd.int .i64) 3 w' w.heap.size (fun k_ => some k_ ≠ (s_.1 : Value).ownBlock ∧ some k_ ≠ (s_.2.2.1 : Value).ownBlock ∧ some k_ ≠ (u230000 : Value).ownBlock ∧ some k_ ≠ (u230001 : Value).ownBlock) s_.2.1 t233) ∧ (Kd.R (Kd.int .i64) 3 w' w.heap.size (fun k_ => some k_ ≠ (s_.1 : Value).ownBlock ∧ some k_ ≠ (s_.2.1 : Value).ownBlock ∧ some k_ ≠ (u230000 : Value).ownBlock ∧ some k_ ≠ (u230001 : Value).ownBlock) s_.2.2.1 t236) ∧ (Kd.R (Kd.int .i64) 3 w' w.heap.size (fun k_ => some k_ ≠ (s_.1 : Value).ownBlock ∧ some k_ ≠ (s_.2.1 : Value).ownBlock ∧ some k_ ≠ (s_.2.2.1 : Value).ownBlock ∧ some k_ ≠ (u230001 : Value).ownBlock) u230000 x230000_1) ∧ (Kd.R (Kd.int .i64) 3 w' w.heap.size (fun k_ => some k_ ≠ (s_.1 : Value).ownBlock ∧ some k_ ≠ (s_.2.1 : Value).ownBlock ∧ some k_ ≠ (s_.2.2.1 : Value).ownBlock ∧ some k_ ≠ (u230000 : Value).ownBlock) u230001 x230001_1) ∧ (w'.heap[gb218]? = some (.cells #[.slice A0_0 l0_0.length c0_0, .slice A0_1 l0_1.length c0_1] 38 (0, 0))) ∧ (w'.heap[gb219]? = some (.cells #[.slice none 0 0, .slice none 0 0] 38 (0, 0))) ∧ (w'.heap[gb229]? = some (.cells #[u230000, u230001] 38 (0, 0))) ∧ (w'.heap[s_.2.2.2]? = some (.cells #[.slice none 0 0, .slice none 0 0] 38 (0, 0))) ∧ (w.heap.size ≤ s_.2.2.2) ∧ (w.heap.size ≤ s_.2.2.2) ∧ (gb218 ≠ s_.2.2.2) ∧ (s_.2.2.2 ≠ gb218) ∧ (gb219 ≠ s_.2.2.2) ∧ (s_.2.2.2 ≠ gb219) ∧ (gb229 ≠ s_.2.2.2) ∧ (s_.2.2.2 ≠ gb229) ∧ (Below w.heap.size w w')) ?_ ?_
     rotate_left
     ·intro hCont
      refine two_ (i := 3) (j := 5) (Ni := some 20) (Nj := some 5) (bl_ 7 15) (bl_ 7 39) rfl rfl rfl rfl (by kernel_rfl) (by decide) (by decide) (fun K hK => ?_) (fun K hK => ?_)
      ·skip
       refine gO_ Tryz.func50 #[.agg #[.slice A0_0 l0_0.length c0_0, .slice A0_1 l0_1.length c0_1], .int .i64 x4_1] (by rfl) rfl rfl qa_ ?_
       with_reducible refine (Z55.calls k1 _ _ l0_0 _ _ l0_1 x4_1 t230 _ (cb_ HR0_0) HC0_0.out (cb_ HR0_1) HC0_1.out A17.out).mono ?_
       rintro e w49 ⟨v231, rfl, ho0, hb⟩
       refine ⟨_, rfl, ?_⟩
       have HO232 := A_ (rE_ (Kd.R_new' (Kd.R_new' ho0 (Kd.R_lt (rr_ HO_230000))) (Kd.R_lt (rr_ HO_230001))) (bF_ hB_))
       replace HO_230000 := A_ (Kd.R_elder' (rr_ HO_230000) (Kd.R_base ho0) hb)
       replace HO_230001 := A_ (Kd.R_elder' (rr_ HO_230001) (Kd.R_base ho0) hb)
       replace BK218 := bb_ BK218 hb
       replace BK219 := bb_ BK219 hb
       replace BK229 := bb_ BK229 hb
       replace HB := b1_ hb
       clear hb ho0
       obtain ⟨Ao50, co50, eo50⟩ := Kd.R_slice HO232.out
       (first | subst eo50 | (injection eo50 with f1_ f2_ f3_; have f4_ := f1_.symm; have f5_ := f3_.symm; clear f1_ f2_ f3_; subst f4_; subst f5_))
       refine hK.out _ _ ⟨cz0_ BK218, cz1_ BK218⟩ (fun hHeld => ?_)
       clear hK K
       refine no_ (some 20) ?_
       refine two_ (i := 4) (j := 5) (Ni := some 21) (Nj := some 5) (bl_ 7 31) (bl_ 7 47) rfl rfl rfl rfl (by kernel_rfl) (by decide) (by decide) (fun K hK => ?_) (fun K hK => ?_)
       ·skip
        refine gO_ Tryz.func49 #[.agg #[.slice A0_0 l0_0.length c0_0, .slice A0_1 l0_1.length c0_1], .slice Ao50 t230.length co50] (by rfl) rfl rfl qa_ ?_
        with_reducible refine (Z37.calls k1 _ _ l0_0 _ _ l0_1 _ _ t230 t233 t236 _ (cb_ HR0_0) HC0_0.out (cb_ HR0_1) HC0_1.out (cr_ HO232) ((Kd.R_reads' HO232.out).2.1) A18.out).mono ?_
        rintro e w51 ⟨v234, v237, rfl, ho0, ho1, hb⟩
        refine ⟨_, rfl, ?_⟩
        have HO235 := A_ (rE_ (Kd.R_new' (Kd.R_new' (Kd.R_new' ho0 (Kd.R_lt (rr_ HO_230000))) (Kd.R_lt (rr_ HO_230001))) (Kd.R_lt (rr_ HO232))) (bF_ hB_))
        have HO238 := A_ (rE_ (Kd.R_new' (Kd.R_new' (Kd.R_new' ho1 (Kd.R_lt (rr_ HO_230000))) (Kd.R_lt (rr_ HO_230001))) (Kd.R_lt (rr_ HO232))) (bF_ hB_))
        replace HO_230000 := A_ (Kd.R_mono (Kd.R_told (Kd.R_told (Kd.R_old (rr_ HO_230000) hb) (Kd.R_base ho0)) (Kd.R_base ho1)) (fun _ h_ => h_.1))
        replace HO_230001 := A_ (Kd.R_mono (Kd.R_told (Kd.R_told (Kd.R_old (rr_ HO_230001) hb) (Kd.R_base ho0)) (Kd.R_base ho1)) (fun _ h_ => h_.1))
        replace HO232 := A_ (Kd.R_mono (Kd.R_told (Kd.R_told (Kd.R_old (rr_ HO232) hb) (Kd.R_base ho0)) (Kd.R_base ho1)) (fun _ h_ => h_.1))
        replace BK218 := bb_ BK218 hb
        replace BK219 := bb_ BK219 hb
        replace BK229 := bb_ BK229 hb
        replace HB := b1_ hb
        clear hb ho0 ho1
        refine hK.out _ _ ⟨cz0_ BK218, cz1_ BK218⟩ (fun hHeld => ?_)
        clear hK K
        refine no_ (some 21) ?_
        refine one_ (i := 5) (N := some 5) (bl_ 7 63) rfl rfl (by kernel_rfl) (by decide) (fun K hK => ?_)
        refine box_step ?hg (N := 5) ?hd (cs := #[.slice none 0 0, .slice none 0 0]) (t := 38) ?hr ?_; (case hd => rfl); (case hg => rfl); (case hr => first | (go_simp; done) | (go_simp; rfl))
        intro gb239 hg w52 hbox hb
        replace HO_230000 := rb_ HO_230000 hb
        replace HO_230001 := rb_ HO_230001 hb
        replace HO232 := rb_ HO232 hb
        replace HO235 := rb_ HO235 hb
        replace HO238 := rb_ HO238 hb
        have BK239 := A_ hbox
        have GW239 := gw_ w hg
        have GE239 := GW239
        replace HB := b1_ hb
        have NB218_239 := gN_ BK218 hg
        have NB239_218 := gP_ BK218 hg
        replace BK218 := bb_ BK218 hb
        have NB219_239 := gN_ BK219 hg
        have NB239_219 := gP_ BK219 hg
        replace BK219 := bb_ BK219 hb
        have NB229_239 := gN_ BK229 hg
        have NB239_229 := gP_ BK229 hg
        replace BK229 := bb_ BK229 hb
        clear hb hbox hg
        refine hK.out _ _ ⟨cz0_ BK218, cz1_ BK218⟩ (fun hHeld => ?_)
        clear hK K
        refine no_ (some 5) ?_
        exact norm_ (by simp only [putAll, Act.put, sA_, sB_, sC_]) (hCont (.slice Ao50 t230.length co50, v234, v237, gb239) _ ⟨hHeld, (rw_ (Kd.R_mono HO232.out (fun _ hk => ⟨hk.1.2, ⟨hk.2, ⟨hk.1.1.1.2, hk.1.1.2⟩⟩⟩))), (rw_ (Kd.R_mono HO235.out (fun _ hk => ⟨hk.2, ⟨hk.1.1.1, ⟨hk.1.1.2, hk.1.2⟩⟩⟩))), (rw_ (Kd.R_mono HO238.out (fun _ hk => ⟨hk.2, ⟨hk.1.1.1, ⟨hk.1.1.2, hk.1.2⟩⟩⟩))), (rw_ (Kd.R_mono HO_230000.out (fun _ hk => ⟨hk.1.1.2, ⟨hk.1.2, ⟨hk.2, hk.1.1.1⟩⟩⟩))), (rw_ (Kd.R_mono HO_230001.out (fun _ hk => ⟨hk.1.1.2, ⟨hk.1.2, ⟨hk.2, hk.1.1.1⟩⟩⟩))), (kk_ BK218), (kk_ BK219), (kk_ BK229), (kk_ BK239), GW239.out, GE239.out, NB218_239.out, NB239_218.out, NB219_239.out, NB239_219.out, NB229_239.out, NB239_229.out, hB_⟩)
       ·skip
        refine box_step ?hg (N := 5) ?hd (cs := #[.slice none 0 0, .slice none 0 0]) (t := 38) ?hr ?_; (case hd => rfl); (case hg => rfl); (case hr => first | (go_simp; done) | (go_simp; rfl))
        intro gb239 hg w50 hbox hb
        replace HO_230000 := rb_ HO_230000 hb
        replace HO_230001 := rb_ HO_230001 hb
        replace HO232 := rb_ HO232 hb
        have BK239 := A_ hbox
        have GW239 := gw_ w hg
        have GE239 := GW239
        replace HB := b1_ hb
        have NB218_239 := gN_ BK218 hg
        have NB239_218 := gP_ BK218 hg
        replace BK218 := bb_ BK218 hb
        have NB219_239 := gN_ BK219 hg
        have NB239_219 := gP_ BK219 hg
        replace BK219 := bb_ BK219 hb
        have NB229_239 := gN_ BK229 hg
        have NB239_229 := gP_ BK229 hg
        replace BK229 := bb_ BK229 hb
        clear hb hbox hg
        obtain ⟨Ao51, co51, eo51⟩ := Kd.R_slice HO232.out
        (first | subst eo51 | (injection eo51 with f1_ f2_ f3_; have f4_ := f1_.symm; have f5_ := f3_.symm; clear f1_ f2_ f3_; subst f4_; subst f5_))
        refine hK.out _ _ ⟨cz0_ BK218, cz1_ BK218⟩ (fun hHeld => ?_)
        clear hK K
        refine no_ (some 5) ?_
        refine one_ (i := 4) (N := some 21) (bl_ 7 63) rfl rfl (by kernel_rfl) (by decide) (fun K hK => ?_)
        refine gO_ Tryz.func49 #[.agg #[.slice A0_0 l0_0.length c0_0, .slice A0_1 l0_1.length c0_1], .slice Ao51 t230.length co51] (by rfl) rfl rfl qa_ ?_
        with_reducible refine (Z37.calls k1 _ _ l0_0 _ _ l0_1 _ _ t230 t233 t236 _ (cb_ HR0_0) HC0_0.out (cb_ HR0_1) HC0_1.out (cr_ HO232) ((Kd.R_reads' HO232.out).2.1) A18.out).mono ?_
        rintro e w52 ⟨v234, v237, rfl, ho0, ho1, hb⟩
        refine ⟨_, rfl, ?_⟩
        have HO235 := A_ (rE_ (Kd.R_new' (Kd.R_new' (Kd.R_new' ho0 (Kd.R_lt (rr_ HO_230000))) (Kd.R_lt (rr_ HO_230001))) (Kd.R_lt (rr_ HO232))) (bF_ hB_))
        have HO238 := A_ (rE_ (Kd.R_new' (Kd.R_new' (Kd.R_new' ho1 (Kd.R_lt (rr_ HO_230000))) (Kd.R_lt (rr_ HO_230001))) (Kd.R_lt (rr_ HO232))) (bF_ hB_))
        replace HO_230000 := A_ (Kd.R_mono (Kd.R_told (Kd.R_told (Kd.R_old (rr_ HO_230000) hb) (Kd.R_base ho0)) (Kd.R_base ho1)) (fun _ h_ => h_.1))
        replace HO_230001 := A_ (Kd.R_mono (Kd.R_told (Kd.R_told (Kd.R_old (rr_ HO_230001) hb) (Kd.R_base ho0)) (Kd.R_base ho1)) (fun _ h_ => h_.1))
        replace HO232 := A_ (Kd.R_mono (Kd.R_told (Kd.R_told (Kd.R_old (rr_ HO232) hb) (Kd.R_base ho0)) (Kd.R_base ho1)) (fun _ h_ => h_.1))
        replace BK218 := bb_ BK218 hb
        replace BK219 := bb_ BK219 hb
        replace BK229 := bb_ BK229 hb
        replace BK239 := bb_ BK239 hb
        replace HB := b1_ hb
        clear hb ho0 ho1
        refine hK.out _ _ ⟨cz0_ BK218, cz1_ BK218⟩ (fun hHeld => ?_)
        clear hK K
        refine no_ (some 21) ?_
        exact norm_ (by simp only [putAll, Act.put, sA_, sB_, sC_]) (hCont (.slice Ao51 t230.length co51, v234, v237, gb239) _ ⟨hHeld, (rw_ (Kd.R_mono HO232.out (fun _ hk => ⟨hk.1.2, ⟨hk.2, ⟨hk.1.1.1.2, hk.1.1.2⟩⟩⟩))), (rw_ (Kd.R_mono HO235.out (fun _ hk => ⟨hk.2, ⟨hk.1.1.1, ⟨hk.1.1.2, hk.1.2⟩⟩⟩))), (rw_ (Kd.R_mono HO238.out (fun _ hk => ⟨hk.2, ⟨hk.1.1.1, ⟨hk.1.1.2, hk.1.2⟩⟩⟩))), (rw_ (Kd.R_mono HO_230000.out (fun _ hk => ⟨hk.1.1.2, ⟨hk.1.2, ⟨hk.2, hk.1.1.1⟩⟩⟩))), (rw_ (Kd.R_mono HO_230001.out (fun _ hk => ⟨hk.1.1.2, ⟨hk.1.2, ⟨hk.2, hk.1.1.1⟩⟩⟩))), (kk_ BK218), (kk_ BK219), (kk_ BK229), (kk_ BK239), GW239.out, GE239.out, NB218_239.out, NB239_218.out, NB219_239.out, NB239_219.out, NB229_239.out, NB239_229.out, hB_⟩)
      ·skip
       refine box_step ?hg (N := 5) ?hd (cs := #[.slice none 0 0, .slice none 0 0]) (t := 38) ?hr ?_; (case hd => rfl); (case hg => rfl); (case hr => first | (go_simp; done) | (go_simp; rfl))
       intro gb239 hg w49 hbox hb
       replace HO_230000 := rb_ HO_230000 hb
       replace HO_230001 := rb_ HO_230001 hb
       have BK239 := A_ hbox
       have GW239 := gw_ w hg
       have GE239 := GW239
       replace HB := b1_ hb
       have NB218_239 := gN_ BK218 hg
       have NB239_218 := gP_ BK218 hg
       replace BK218 := bb_ BK218 hb
       have NB219_239 := gN_ BK219 hg
       have NB239_219 := gP_ BK219 hg
       replace BK219 := bb_ BK219 hb
       have NB229_239 := gN_ BK229 hg
       have NB239_229 := gP_ BK229 hg
       replace BK229 := bb_ BK229 hb
       clear hb hbox hg
       refine hK.out _ _ ⟨cz0_ BK218, cz1_ BK218⟩ (fun hHeld => ?_)
       clear hK K
       refine no_ (some 5) ?_
       refine one_ (i := 3) (N := some 20) (bl_ 7 47) rfl rfl (by kernel_rfl) (by decide) (fun K hK => ?_)
       refine gO_ Tryz.func50 #[.agg #[.slice A0_0 l0_0.length c0_0, .slice A0_1 l0_1.length c0_1], .int .i64 x4_1] (by rfl) rfl rfl qa_ ?_
       with_reducible refine (Z55.calls k1 _ _ l0_0 _ _ l0_1 x4_1 t230 _ (cb_ HR0_0) HC0_0.out (cb_ HR0_1) HC0_1.out A17.out).mono ?_
       rintro e w50 ⟨v231, rfl, ho0, hb⟩
       refine ⟨_, rfl, ?_⟩
       have HO232 := A_ (rE_ (Kd.R_new' (Kd.R_new' ho0 (Kd.R_lt (rr_ HO_230000))) (Kd.R_lt (rr_ HO_230001))) (bF_ hB_))
       replace HO_230000 := A_ (Kd.R_elder' (rr_ HO_230000) (Kd.R_base ho0) hb)
       replace HO_230001 := A_ (Kd.R_elder' (rr_ HO_230001) (Kd.R_base ho0) hb)
       replace BK218 := bb_ BK218 hb
       replace BK219 := bb_ BK219 hb
       replace BK229 := bb_ BK229 hb
       replace BK239 := bb_ BK239 hb
       replace HB := b1_ hb
       clear hb ho0
       obtain ⟨Ao51, co51, eo51⟩ := Kd.R_slice HO232.out
       (first | subst eo51 | (injection eo51 with f1_ f2_ f3_; have f4_ := f1_.symm; have f5_ := f3_.symm; clear f1_ f2_ f3_; subst f4_; subst f5_))
       refine hK.out _ _ ⟨cz0_ BK218, cz1_ BK218⟩ (fun hHeld => ?_)
       clear hK K
       refine no_ (some 20) ?_
       refine one_ (i := 4) (N := some 21) (bl_ 7 63) rfl rfl (by kernel_rfl) (by decide) (fun K hK => ?_)
       refine gO_ Tryz.func49 #[.agg #[.slice A0_0 l0_0.length c0_0, .slice A0_1 l0_1.length c0_1], .slice Ao51 t230.length co51] (by rfl) rfl rfl qa_ ?_
       with_reducible refine (Z37.calls k1 _ _ l0_0 _ _ l0_1 _ _ t230 t233 t236 _ (cb_ HR0_0) HC0_0.out (cb_ HR0_1) HC0_1.out (cr_ HO232) ((Kd.R_reads' HO232.out).2.1) A18.out).mono ?_
       rintro e w52 ⟨v234, v237, rfl, ho0, ho1, hb⟩
       refine ⟨_, rfl, ?_⟩
       have HO235 := A_ (rE_ (Kd.R_new' (Kd.R_new' (Kd.R_new' ho0 (Kd.R_lt (rr_ HO_230000))) (Kd.R_lt (rr_ HO_230001))) (Kd.R_lt (rr_ HO232))) (bF_ hB_))
       have HO238 := A_ (rE_ (Kd.R_new' (Kd.R_new' (Kd.R_new' ho1 (Kd.R_lt (rr_ HO_230000))) (Kd.R_lt (rr_ HO_230001))) (Kd.R_lt (rr_ HO232))) (bF_ hB_))
       replace HO_230000 := A_ (Kd.R_mono (Kd.R_told (Kd.R_told (Kd.R_old (rr_ HO_230000) hb) (Kd.R_base ho0)) (Kd.R_base ho1)) (fun _ h_ => h_.1))
       replace HO_230001 := A_ (Kd.R_mono (Kd.R_told (Kd.R_told (Kd.R_old (rr_ HO_230001) hb) (Kd.R_base ho0)) (Kd.R_base ho1)) (fun _ h_ => h_.1))
       replace HO232 := A_ (Kd.R_mono (Kd.R_told (Kd.R_told (Kd.R_old (rr_ HO232) hb) (Kd.R_base ho0)) (Kd.R_base ho1)) (fun _ h_ => h_.1))
       replace BK218 := bb_ BK218 hb
       replace BK219 := bb_ BK219 hb
       replace BK229 := bb_ BK229 hb
       replace BK239 := bb_ BK239 hb
       replace HB := b1_ hb
       clear hb ho0 ho1
       refine hK.out _ _ ⟨cz0_ BK218, cz1_ BK218⟩ (fun hHeld => ?_)
       clear hK K
       refine no_ (some 21) ?_
       exact norm_ (by simp only [putAll, Act.put, sA_, sB_, sC_]) (hCont (.slice Ao51 t230.length co51, v234, v237, gb239) _ ⟨hHeld, (rw_ (Kd.R_mono HO232.out (fun _ hk => ⟨hk.1.2, ⟨hk.2, ⟨hk.1.1.1.2, hk.1.1.2⟩⟩⟩))), (rw_ (Kd.R_mono HO235.out (fun _ hk => ⟨hk.2, ⟨hk.1.1.1, ⟨hk.1.1.2, hk.1.2⟩⟩⟩))), (rw_ (Kd.R_mono HO238.out (fun _ hk => ⟨hk.2, ⟨hk.1.1.1, ⟨hk.1.1.2, hk.1.2⟩⟩⟩))), (rw_ (Kd.R_mono HO_230000.out (fun _ hk => ⟨hk.1.1.2, ⟨hk.1.2, ⟨hk.2, hk.1.1.1⟩⟩⟩))), (rw_ (Kd.R_mono HO_230001.out (fun _ hk => ⟨hk.1.1.2, ⟨hk.1.2, ⟨hk.2, hk.1.1.1⟩⟩⟩))), (kk_ BK218), (kk_ BK219), (kk_ BK229), (kk_ BK239), GW239.out, GE239.out, NB218_239.out, NB239_218.out, NB219_239.out, NB239_219.out, NB229_239.out, NB239_229.out, hB_⟩)
     rintro ⟨v231, v234, v237, gb239⟩ w53 ⟨hS_, h0_, h1_, h2_, h3_, h4_, h5_, h6_, h7_, h8_, h9_, h10_, h11_, h12_, h13_, h14_, h15_, h16_, h17_⟩
     have n0_ : Aside0 (Kd.R (Kd.int .i64) 3 w53 w.heap.size (fun k_ => some k_ ≠ (v234 : Value).ownBlock ∧ some k_ ≠ (v237 : Value).ownBlock ∧ some k_ ≠ (u230000 : Value).ownBlock ∧ some k_ ≠ (u230001 : Value).ownBlock) v231 t230) := ⟨h0_⟩
     have n1_ : Aside0 (Kd.R (Kd.int .i64) 3 w53 w.heap.size (fun k_ => some k_ ≠ (v231 : Value).ownBlock ∧ some k_ ≠ (v237 : Value).ownBlock ∧ some k_ ≠ (u230000 : Value).ownBlock ∧ some k_ ≠ (u230001 : Value).ownBlock) v234 t233) := ⟨h1_⟩
     have n2_ : Aside0 (Kd.R (Kd.int .i64) 3 w53 w.heap.size (fun k_ => some k_ ≠ (v231 : Value).ownBlock ∧ some k_ ≠ (v234 : Value).ownBlock ∧ some k_ ≠ (u230000 : Value).ownBlock ∧ some k_ ≠ (u230001 : Value).ownBlock) v237 t236) := ⟨h2_⟩
     have n3_ : Aside0 (Kd.R (Kd.int .i64) 3 w53 w.heap.size (fun k_ => some k_ ≠ (v231 : Value).ownBlock ∧ some k_ ≠ (v234 : Value).ownBlock ∧ some k_ ≠ (v237 : Value).ownBlock ∧ some k_ ≠ (u230001 : Value).ownBlock) u230000 x230000_1) := ⟨h3_⟩
     have n4_ : Aside0 (Kd.R (Kd.int .i64) 3 w53 w.heap.size (fun k_ => some k_ ≠ (v231 : Value).ownBlock ∧ some k_ ≠ (v234 : Value).ownBlock ∧ some k_ ≠ (v237 : Value).ownBlock ∧ some k_ ≠ (u230000 : Value).ownBlock) u230001 x230001_1) := ⟨h4_⟩
     have n5_ : Aside0 (w53.heap[gb218]? = some (.cells #[.slice A0_0 l0_0.length c0_0, .slice A0_1 l0_1.length c0_1] 38 (0, 0))) := ⟨h5_⟩
     have n6_ : Aside0 (w53.heap[gb219]? = some (.cells #[.slice none 0 0, .slice none 0 0] 38 (0, 0))) := ⟨h6_⟩
     have n7_ : Aside0 (w53.heap[gb229]? = some (.cells #[u230000, u230001] 38 (0, 0))) := ⟨h7_⟩
     have n8_ : Aside0 (w53.heap[gb239]? = some (.cells #[.slice none 0 0, .slice none 0 0] 38 (0, 0))) := ⟨h8_⟩
     have n9_ : Aside0 (w.heap.size ≤ gb239) := ⟨h9_⟩
     have n10_ : Aside0 (w.heap.size ≤ gb239) := ⟨h10_⟩
     have n11_ : Aside0 (gb218 ≠ gb239) := ⟨h11_⟩
     have n12_ : Aside0 (gb239 ≠ gb218) := ⟨h12_⟩
     have n13_ : Aside0 (gb219 ≠ gb239) := ⟨h13_⟩
     have n14_ : Aside0 (gb239 ≠ gb219) := ⟨h14_⟩
     have n15_ : Aside0 (gb229 ≠ gb239) := ⟨h15_⟩
     have n16_ : Aside0 (gb239 ≠ gb229) := ⟨h16_⟩
     have n17_ : Aside0 (Below w.heap.size w w53) := ⟨h17_⟩
     clear HO_230000
     clear HO_230001
     clear BK218
     clear BK219
     clear BK229
     clear HB
     clear h0_ h1_ h2_ h3_ h4_ h5_ h6_ h7_ h8_ h9_ h10_ h11_ h12_ h13_ h14_ h15_ h16_ h17_
     have HO232 := n0_
     have HO235 := n1_
     have HO238 := n2_
     have HO_230000 := n3_
     have HO_230001 := n4_
     have BK218 := n5_
     have BK219 := n6_
     have BK229 := n7_
     have BK239 := n8_
     have GW239 := n9_
     have GE239 := n10_
     have NB218_239 := n11_
     have NB239_218 := n12_
     have NB219_239 := n13_
     have NB239_219 := n14_
     have NB229_239 := n15_
     have NB239_229 := n16_
     have HB := n17_
     clear n0_ n1_ n2_ n3_ n4_ n5_ n6_ n7_ n8_ n9_ n10_ n11_ n12_ n13_ n14_ n15_ n16_ n17_
     have hHeld : w53.cell? ⟨gb218, 0, none⟩ = some (.slice A0_0 l0_0.length c0_0) ∧ w53.cell? ⟨gb218, 1, none⟩ = some (.slice A0_1 l0_1.length c0_1) := hS_
     obtain ⟨Ao54, co54, eo54⟩ := Kd.R_slice HO235.out
     (first | subst eo54 | (injection eo54 with f1_ f2_ f3_; have f4_ := f1_.symm; have f5_ := f3_.symm; clear f1_ f2_ f3_; subst f4_; subst f5_))
     obtain ⟨Ao56, co56, eo56⟩ := Kd.R_slice HO238.out
     (first | subst eo56 | (injection eo56 with f1_ f2_ f3_; have f4_ := f1_.symm; have f5_ := f3_.symm; clear f1_ f2_ f3_; subst f4_; subst f5_))
     refine norm_ (a' := ?_) ?_ ?_
     rotate_left
     ·simp only [putAll, Act.put, sA_, sB_, sC_]
      rfl
     refine one_ (i := 6) (N := none) (bl_ 7 127) rfl rfl (by kernel_rfl) (by decide) (fun K hK => ?_)
     have hs55 : w53.cell? ⟨gb239, 0, none⟩ = some (.slice none 0 0) := cz0_ BK239
     have hfs55 := kD_ BK239.out 0
     have hns55_0 := NB218_239.out
     have hns55_1 := NB219_239.out
     have hns55_2 := NB229_239.out
     have hms55_0 := NB239_218.out
     have hms55_1 := NB239_219.out
     have hms55_2 := NB239_229.out
     have hs57 : w53.cell? ⟨gb239, 1, none⟩ = some (.slice none 0 0) := cz1_ BK239
     have hfs57 := kD_ BK239.out 1
     have hns57_0 := NB218_239.out
     have hns57_1 := NB219_239.out
     have hns57_2 := NB229_239.out
     have hms57_0 := NB239_218.out
     have hms57_1 := NB239_219.out
     have hms57_2 := NB239_229.out
     refine skip_ (w1 := ?_) (by rfl) rfl ?_ ?_
     rotate_left
     ·go_simp
      rfl
     refine hK.out _ _ ⟨((cell_far (p := ⟨gb239, _, none⟩) NB218_239.out _).trans (((cell_far (p := ⟨gb239, _, none⟩) NB218_239.out _).trans (hHeld.1)))), ((cell_far (p := ⟨gb239, _, none⟩) NB218_239.out _).trans (((cell_far (p := ⟨gb239, _, none⟩) NB218_239.out _).trans (hHeld.2))))⟩ (fun hHeld => ?_)
     clear hK K
     refine done_ (by kernel_rfl) ?_
     have hnb58 := NB239_218.out
     have hnc58 := NB218_239.out
     have hnb59 := NB239_219.out
     have hnc59 := NB219_239.out
     have hnb60 := NB239_229.out
     have hnc60 := NB229_239.out
     obtain ⟨hcz61_0, hcz61_1, hfz61_0, hfz61_1⟩ := c2_ BK239
     have hnb62 := NB229_219.out
     have hnc62 := NB219_229.out
     obtain ⟨hcz63_0, hcz63_1, hfz63_0, hfz63_1⟩ := c2_ BK229
     obtain ⟨Ao64, co64, eo64⟩ := Kd.R_slice HO_230000.out
     subst eo64
     obtain ⟨Ao65, co65, eo65⟩ := Kd.R_slice HO_230001.out
     subst eo65
     try go_wp2_with (first | ((with_reducible refine gA_ (f := 48) rfl ?_); refine gL_ (some 24) Tryz.func48 #[.agg #[.slice Ao54 t233.length co54, .slice Ao56 t236.length co56], .agg #[.slice Ao64 x230000_1.length co64, .slice Ao65 x230001_1.length co65]] rfl qa_ ?_; (with_reducible refine (Z36.calls k1 _ _ t233 _ _ t236 _ _ x230000_1 _ _ x230001_1 false _ ?side1 ?side2 ?side3 ?side4 ?side5 ?side6 ?side7 ?side8 A19.out).mono ?_); (case side1 => refine (Kd.R_reads' (e := 3) (base := w.heap.size) (ok := fun k_ => (some k_ ≠ (v231 : Value).ownBlock ∧ (some k_ ≠ (.slice Ao56 t236.length co56 : Value).ownBlock ∧ (some k_ ≠ (.slice Ao64 x230000_1.length co64 : Value).ownBlock ∧ some k_ ≠ (.slice Ao65 x230001_1.length co65 : Value).ownBlock)))) (n := t233.length) (c := co54) ?_).2.2; exact (rw_ (fa_ HO235 BK239))); (case side2 => exact (Kd.R_reads' HO235.out).2.1); (case side3 => refine (Kd.R_reads' (e := 3) (base := w.heap.size) (ok := fun k_ => (some k_ ≠ (v231 : Value).ownBlock ∧ (some k_ ≠ (.slice Ao54 t233.length co54 : Value).ownBlock ∧ (some k_ ≠ (.slice Ao64 x230000_1.length co64 : Value).ownBlock ∧ some k_ ≠ (.slice Ao65 x230001_1.length co65 : Value).ownBlock)))) (n := t236.length) (c := co56) ?_).2.2; exact (rw_ (fa_ HO238 BK239))); (case side4 => exact (Kd.R_reads' HO238.out).2.1); (case side5 => refine (Kd.R_reads' (e := 3) (base := w.heap.size) (ok := fun k_ => (some k_ ≠ (v231 : Value).ownBlock ∧ (some k_ ≠ (.slice Ao54 t233.length co54 : Value).ownBlock ∧ (some k_ ≠ (.slice Ao56 t236.length co56 : Value).ownBlock ∧ some k_ ≠ (.slice Ao65 x230001_1.length co65 : Value).ownBlock)))) (n := x230000_1.length) (c := co64) ?_).2.2; exact (rw_ (fa_ HO_230000 BK239))); (case side6 => exact (Kd.R_reads' HO_230000.out).2.1); (case side7 => refine (Kd.R_reads' (e := 3) (base := w.heap.size) (ok := fun k_ => (some k_ ≠ (v231 : Value).ownBlock ∧ (some k_ ≠ (.slice Ao54 t233.length co54 : Value).ownBlock ∧ (some k_ ≠ (.slice Ao56 t236.length co56 : Value).ownBlock ∧ some k_ ≠ (.slice Ao64 x230000_1.length co64 : Value).ownBlock)))) (n := x230001_1.length) (c := co65) ?_).2.2; exact (rw_ (fa_ HO_230001 BK239))); (case side8 => exact (Kd.R_reads' HO_230001.out).2.1); rintro e w66 ⟨rfl, hb⟩; refine ⟨_, rfl, ?_⟩; replace HO_230000 := A_ (rD_ (rw_ (fa_ HO_230000 BK239)) hb); replace HO_230001 := A_ (rD_ (rw_ (fa_ HO_230001 BK239)) hb); replace HO232 := A_ (rD_ (rw_ (fa_ HO232 BK239)) hb); replace HO235 := A_ (rD_ (rw_ (fa_ HO235 BK239)) hb); replace HO238 := A_ (rD_ (rw_ (fa_ HO238 BK239)) hb); replace BK218 := A_ (kE_ (g := gb218) (o := .cells #[.slice A0_0 l0_0.length c0_0, .slice A0_1 l0_1.length c0_1] 38 (0, 0)) (by (with_reducible repeat (first | refine kA_ ?_ _ | refine kB_ ?_ | refine kC_ ?_ _)); refine blk_far ?_ NB218_239.out _; (with_reducible repeat (first | refine kA_ ?_ _ | refine kB_ ?_ | refine kC_ ?_ _)); refine blk_far ?_ NB218_239.out _; (with_reducible repeat (first | refine kA_ ?_ _ | refine kB_ ?_ | refine kC_ ?_ _)); exact BK218.out) hb); replace BK219 := A_ (kE_ (g := gb219) (o := .cells #[.slice none 0 0, .slice none 0 0] 38 (0, 0)) (by (with_reducible repeat (first | refine kA_ ?_ _ | refine kB_ ?_ | refine kC_ ?_ _)); refine blk_far ?_ NB219_239.out _; (with_reducible repeat (first | refine kA_ ?_ _ | refine kB_ ?_ | refine kC_ ?_ _)); refine blk_far ?_ NB219_239.out _; (with_reducible repeat (first | refine kA_ ?_ _ | refine kB_ ?_ | refine kC_ ?_ _)); exact BK219.out) hb); replace BK229 := A_ (kE_ (g := gb229) (o := .cells #[.slice Ao64 x230000_1.length co64, .slice Ao65 x230001_1.length co65] 38 (0, 0)) (by (with_reducible repeat (first | refine kA_ ?_ _ | refine kB_ ?_ | refine kC_ ?_ _)); refine blk_far ?_ NB229_239.out _; (with_reducible repeat (first | refine kA_ ?_ _ | refine kB_ ?_ | refine kC_ ?_ _)); refine blk_far ?_ NB229_239.out _; (with_reducible repeat (first | refine kA_ ?_ _ | refine kB_ ?_ | refine kC_ ?_ _)); exact BK229.out) hb); replace BK239 := A_ (kE_ (g := gb239) (o := .cells #[.slice Ao54 t233.length co54, .slice Ao56 t236.length co56] 38 (0, 0)) qp_ hb); replace HB := b1_ hb; clear hb))
     go_roundg k1
     case measure => have := HK1.out; omega
     case rel => exact ⟨(wrap64 (x4_1 + 1)), (x230000_1), (x230001_1), (.slice Ao64 x230000_1.length co64), (.slice Ao65 x230001_1.length co65), qc_, H', ⟨by have := HK1.out; omega⟩, ⟨(rw_ (Kd.R_mono HO_230000.out (fun _ hk => hk.2.2.2)))⟩, ⟨(rw_ (Kd.R_mono HO_230001.out (fun _ hk => hk.2.2.2)))⟩, ⟨(kk_ BK218)⟩, ⟨(kk_ BK219)⟩, ⟨(kk_ BK229)⟩, ⟨hB_⟩⟩
   ·rw [if_neg c16] at H
    have c16b0 := oD_ c16
    clear c16
    simp only [Option.some.injEq, Prod.mk.injEq] at H
    obtain ⟨rfl, rfl⟩ := H
    have hnb67 := NB218_219.out
    have hnc67 := NB219_218.out
    have hnb68 := NB218_229.out
    have hnc68 := NB229_218.out
    obtain ⟨hcz69_0, hcz69_1, hfz69_0, hfz69_1⟩ := c2_ BK218
    have hnb70 := NB229_219.out
    have hnc70 := NB219_229.out
    obtain ⟨hcz71_0, hcz71_1, hfz71_0, hfz71_1⟩ := c2_ BK229
    obtain ⟨Ao72, co72, eo72⟩ := Kd.R_slice HO_230000.out
    subst eo72
    obtain ⟨hcz73_0, hcz73_1, hfz73_0, hfz73_1⟩ := c2_ BK219
    obtain ⟨Ao74, co74, eo74⟩ := Kd.R_slice HO_230001.out
    subst eo74
    go_wp2
    refine bodyPost_ret (results_cell_row rfl _ _ gb219 38 #[.slice Ao72 x230000_1.length co72, .slice Ao74 x230001_1.length co74] (0, 0) _ rfl qp_ Tryz.underlying38 rfl (by kernel_rfl)) rfl ?_
    exact ⟨_, _, qb_, (rw_ (fa_ HO_230000 BK219)), (rw_ (fa_ HO_230001 BK219)), hB_⟩
end Go.Proofs.YtoijcallajegfaaGreat.A
end
section
namespace Go.Proofs.YtoijcallajegfaaGreat.A
open Go.RowKit Go.Proofs.YtoijcallajegfaaGreatW.PrintWords Go.Proofs.YtoijcallajegfaaGreatW.PrintLast Go.Proofs.YtoijcallajegfaaGreatW.PrintMore
attribute [local go_sem] max2_int min2_int max_two min_two max_three min_three max_four min_four
set_option linter.unusedVariables false
set_option linter.unusedSimpArgs false
mutual
def Z15.l0 : Nat → List (S38) → List (List Int) → List (List Int) → Int → Int → Option ((List (S38)))
 | 0, _, _, _, _, _ => none
 | k + 1, x3, x4, x16, x17, x18 => if x18 < x17 then (if 0 ≤ x18 then (if x18 < (x16.length : Int) then (Z15.l1 k x3 x4 (rd_L1 x16 x18) x16 x17 x18 x4 (x4.length : Int) 0) else (none)) else (none)) else (some x3)
def Z15.l1 : Nat → List (S38) → List (List Int) → List Int → List (List Int) → Int → Int → List (List Int) → Int → Int → Option ((List (S38)))
 | 0, _, _, _, _, _, _, _, _, _ => none
 | k + 1, x3, x4, x6, x16, x17, x18, x22, x23, x24 => if x24 < x23 then (if 0 ≤ x24 then (if x24 < (x22.length : Int) then ((Z34.f k x6 (rd_L1 x22 x24)).bind fun t251 => (if t251 = true then ((Z54.f k x6 (rd_L1 x22 x24)).bind fun bt252 => ((Z39.f k x3 bt252.1 bt252.2).bind fun t258 => (Z15.l1 k t258 x4 x6 x16 x17 x18 x22 x23 (wrap64 (x24 + 1))))) else (Z15.l1 k x3 x4 x6 x16 x17 x18 x22 x23 (wrap64 (x24 + 1))))) else (none)) else (none)) else (Z15.l0 k x3 x4 x16 x17 (wrap64 (x18 + 1)))
end
def Z15.f (k : Nat) (a0 : Int) : Option ((List (S38))) := (Z66.f a0 1 4).bind fun t241 => (if t241 = true then ((Z56.f k a0).bind fun t245 => (Z15.l0 k (([] : List (S38))) t245 t245 (t245.length : Int) 0)) else (some ([] : List (S38))))
theorem Z15.mono_l : ∀ k, (∀ y0 y1 y2 y3 y4, LeO (Z15.l0 k y0 y1 y2 y3 y4) (Z15.l0 (k + 1) y0 y1 y2 y3 y4)) ∧ (∀ y0 y1 y2 y3 y4 y5 y6 y7 y8, LeO (Z15.l1 k y0 y1 y2 y3 y4 y5 y6 y7 y8) (Z15.l1 (k + 1) y0 y1 y2 y3 y4 y5 y6 y7 y8))
 | 0 => ⟨fun _ _ _ _ _ r h => by simp [Z15.l0] at h, fun _ _ _ _ _ _ _ _ _ r h => by simp [Z15.l1] at h⟩
 | k + 1 => by
  obtain ⟨ih0, ih1⟩ := Z15.mono_l k
  refine ⟨?_, ?_⟩
  ·intro y0 y1 y2 y3 y4
   unfold Z15.l0
   repeat' first|exact ih0 _ _ _ _ _|exact ih1 _ _ _ _ _ _ _ _ _|exact Z34.mono _ _ _|exact Z54.mono _ _ _|exact Z39.mono _ _ _ _|exact Z56.mono _ _|exact lo_|refine LeO.ite ?_ ?_|refine LeO.bind ?_ (fun _ => ?_)
  ·intro y0 y1 y2 y3 y4 y5 y6 y7 y8
   unfold Z15.l1
   repeat' first|exact ih0 _ _ _ _ _|exact ih1 _ _ _ _ _ _ _ _ _|exact Z34.mono _ _ _|exact Z54.mono _ _ _|exact Z39.mono _ _ _ _|exact Z56.mono _ _|exact lo_|refine LeO.ite ?_ ?_|refine LeO.bind ?_ (fun _ => ?_)
theorem Z15.mono : ∀ a0 k, LeO (Z15.f k a0) (Z15.f (k + 1) a0) := by
 intro a0 k
 obtain ⟨ih0, ih1⟩ := Z15.mono_l k
 unfold Z15.f
 repeat' first|exact ih0 _ _ _ _ _|exact ih1 _ _ _ _ _ _ _ _ _|exact Z34.mono _ _ _|exact Z54.mono _ _ _|exact Z39.mono _ _ _ _|exact Z56.mono _ _|exact lo_|refine LeO.ite ?_ ?_|refine LeO.bind ?_ (fun _ => ?_)
set_option maxHeartbeats 8000000 in
set_option maxRecDepth 100000 in
theorem Z15.calls (k : Nat) (a0 : Int) (r : List (S38)) (w : World) (h : Z15.f k a0 = some r) :
  Calls Tryz.prog 18 #[.int .i64 a0] w fun e w' => ∃ v0_ : Value, e = .returned (v0_) ∧ Kd.N k38 38 w' w.heap.size (fun k_ => (w.heap.size ≤ k_)) v0_ r ∧ Below w.heap.size w w' := by
 have hu38 := Tryz.underlying38
 have HB := A_ (Below.refl w.heap.size w)
 have H := h
 unfold Z15.f at H
 clear h
 obtain ⟨t241, A2, H⟩ := bi_ H
 by_cases c3 : t241 = true
 ·subst c3
  rw [if_pos rfl] at H
  obtain ⟨y242, hy242⟩ : ∃ y_ : List (S38), y_ = (([] : List (S38))) := ⟨_, rfl⟩
  replace H : ((Z56.f k a0).bind fun t245 => (Z15.l0 k y242 t245 t245 (t245.length : Int) 0)) = some r := by first | (rw [hy242]; exact H) | exact H
  have Ny242 := A_ hy242
  clear hy242
  obtain ⟨t245, A4, H⟩ := bi_ H
  have H' := A_ H
  clear H
  go_enter Tryz.func18, Tryz.ntmps18
  go_wp2_with (first | ((with_reducible refine gA_ (f := 31) rfl ?_); refine gL_ (some 11) Tryz.func31 #[.int .i64 a0, .int .i64 1, .int .i64 4] rfl qa_ ?_; (with_reducible refine (Z66.calls a0 1 4 true _ A2.out).mono ?_); rintro e w' ⟨rfl, ⟨nd, rfl⟩⟩; refine ⟨_, rfl, ?_⟩) | ((with_reducible refine gB_ (N := 13) rfl ?_); refine Kd.N_lit k38 _ 38 ?hg (N' := 13) ?hd (xs := ([] : List (S38))) (inner := []) (ok := (fun k_ => (w.heap.size ≤ k_))) (okp := (fun k_ => (w.heap.size ≤ k_))) ?hr ?hp (fun _ hk => hk) ((show ∀ k_, w.heap.size ≤ k_ → (fun k_ => (w.heap.size ≤ k_)) k_ from fun k_ hk => (Nat.le_trans (bF_ hB_) hk)) _ (nA_ _)) (Below.refl _ _) (nA_ _) (by simp) ?_; (case hd => rfl); (case hg => rfl); (case hr => first | (go_simp; done) | (go_simp; rfl)); (case hp => exact (Reps.none _ _)); intro v243 w5 ho6 hb hg_ hnew_; clear hg_ hnew_; (first | rw [← Ny242.out] at ho6 | (simp only [Int.reduceToNat] at ho6; rw [← Ny242.out] at ho6)); have HO244 := A_ (Kd.N_lower ho6 (bF_ hB_)); replace HB := b1_ hb; clear hb ho6) | ((with_reducible refine gA_ (f := 32) rfl ?_); refine gL_ (some 15) Tryz.func32 #[.int .i64 a0] rfl qa_ ?_; (with_reducible refine (Z56.calls k a0 t245 _ A4.out).mono ?_); rintro e w7 ⟨v246, rfl, ho0, hb⟩; refine ⟨_, rfl, ?_⟩; have HO247 := A_ (Kd.N_lower (Kd.N_mono (ok' := fun k_ => (w.heap.size ≤ k_) ∧ some k_ ≠ (v243 : Value).ownBlock) ho0 (fun k_ hk_ => ⟨(Nat.le_trans (bF_ hB_) hk_), (Kd.fresh' (Kd.N_lt (by (with_reducible repeat (first | apply Kd.N_alloc | apply Kd.N_drewN | apply Kd.N_drew)); exact HO244.out)) k_ hk_)⟩)) (bF_ hB_)); replace HO244 := A_ (Kd.N_elder' (by (with_reducible repeat (first | apply Kd.N_alloc | apply Kd.N_drewN | apply Kd.N_drew)); exact HO244.out) (Kd.N_base ho0) hb); replace HB := b1_ hb; clear hb ho0; obtain ⟨Ao8, co8, eo8⟩ := Kd.N_slice HO247.out; subst eo8))
  go_loopg [3, 18] k (fun kq v3 v18 w' => ∃ (x3_1 : List (S38)) (x18_1 : Int), v18 = .int .i64 x18_1 ∧ Aside0 (Z15.l0 kq x3_1 t245 t245 (t245.length : Int) x18_1 = some r) ∧ Aside0 (kq ≤ k) ∧ Aside0 (Kd.N k38 38 w' w.heap.size (fun k_ => (w.heap.size ≤ k_) ∧ some k_ ≠ ((.slice Ao8 t245.length co8) : Value).ownBlock ∧ some k_ ≠ ((.slice Ao8 t245.length co8) : Value).ownBlock) v3 x3_1) ∧ Aside0 (Kd.N (Kd.slice 3 (Kd.int .i64)) 27 w' w.heap.size (fun k_ => (w.heap.size ≤ k_) ∧ some k_ ≠ (v3 : Value).ownBlock) (.slice Ao8 t245.length co8) t245) ∧ Aside0 (Kd.N (Kd.slice 3 (Kd.int .i64)) 27 w' w.heap.size (fun k_ => (w.heap.size ≤ k_) ∧ some k_ ≠ (v3 : Value).ownBlock) (.slice Ao8 t245.length co8) t245) ∧ Aside0 (Below w.heap.size w w'))
  case atStart => exact ⟨(y242), (0), qc_, H', ⟨nA_ _⟩, ⟨by (with_reducible repeat (first | apply Kd.N_alloc | apply Kd.N_drewN | apply Kd.N_drew)); exact Kd.N_mono HO244.out (fun _ hk => ⟨hk.1, ⟨hk.2, hk.2⟩⟩)⟩, ⟨by (with_reducible repeat (first | apply Kd.N_alloc | apply Kd.N_drewN | apply Kd.N_drew)); exact HO247.out⟩, ⟨by (with_reducible repeat (first | apply Kd.N_alloc | apply Kd.N_drewN | apply Kd.N_drew)); exact HO247.out⟩, ⟨hB_⟩⟩
  case round =>
   clear H'
   obtain ⟨x3_1, x18_1, rfl, HA, HK1, HO_3, HO_4, HO_16, HB⟩ := hrel
   cases gk with
   | zero => exact absurd HA.out (by simp [Z15.l0])
   | succ k1 =>
    have H := HA.out
    clear HA
    simp only [Z15.l0] at H
    by_cases c9 : x18_1 < (t245.length : Int)
    ·rw [if_pos c9] at H
     have c9b0 := oC_ c9
     clear c9
     have c10 := cp_ H
     replace H := ca_ H
     have c10b0 := oC_ c10
     clear c10
     have c11 := cp_ H
     replace H := ca_ H
     have c11b0 := oC_ c11
     clear c11
     have H' := A_ H
     clear H
     have p248 : 0 ≤ (x18_1 : Int) := oB_ qe_
     have q248 : x18_1 < (t245.length : Int) := oB_ qe_
     obtain ⟨ad248, A248_0, c248_0, e248, hx248_0, hl248_0, hi248_0⟩ := at_L1 (Kd.N_reads' HO_16.out).2.2 x18_1 p248 q248
     cases e248
     obtain ⟨ce248, hce248, hMe248, hcc248⟩ := Kd.N_get HO_16.out [] x18_1 p248 (by first | exact q248 | exact oB_ qe_ | (have e_ := (Kd.N_reads' HO_16.out).1; omega))
     obtain ⟨ua248_0, uc248_0, rfl, ul248_0, ge248_0⟩ := Kd.FK_slice_open hMe248
     have hv248_0 := hcc248 0 _ rfl
     rw [Nat.add_zero, show ((Kd.slice 3 (Kd.int .i64))).sz = 1 from rfl, Nat.mul_one] at hv248_0
     replace hv248_0 := Option.some.inj (hv248_0.symm.trans hx248_0)
     injection hv248_0 with hva_ hvn_ hvc_
     rw [hva_] at ge248_0
     rw [hvc_] at ul248_0
     have HL248_0 := A_ (show Kd.V (Kd.int .i64) 3 _ w.heap.size _ _ (rd_L1 t245 x18_1) from Kd.V_mk ul248_0 ge248_0)
     clear hva_ hvn_ hvc_ ge248_0 ul248_0
     clear hcc248 hce248
     have HR248_0 := A_ hi248_0
     have HC248_0 := A_ hl248_0
     clear hi248_0 hl248_0
     replace p248 := eq_true p248
     replace q248 := eq_true q248
     go_wp2
     go_loopg [3, 24] k1 (fun kq v3 v24 w' => ∃ (x3_2 : List (S38)) (x24_2 : Int), v24 = .int .i64 x24_2 ∧ Aside0 (Z15.l1 kq x3_2 t245 (rd_L1 t245 x18_1) t245 (t245.length : Int) x18_1 t245 (t245.length : Int) x24_2 = some r) ∧ Aside0 (kq ≤ k1) ∧ Aside0 (Kd.N k38 38 w' w.heap.size (fun k_ => (w.heap.size ≤ k_) ∧ some k_ ≠ ((.slice (some ad248) t245.length co8) : Value).ownBlock ∧ some k_ ≠ ((.slice (some ad248) t245.length co8) : Value).ownBlock ∧ some k_ ≠ ((.slice (some ad248) t245.length co8) : Value).ownBlock) v3 x3_2) ∧ Aside0 (Kd.N (Kd.slice 3 (Kd.int .i64)) 27 w' w.heap.size (fun k_ => (w.heap.size ≤ k_) ∧ some k_ ≠ (v3 : Value).ownBlock) (.slice (some ad248) t245.length co8) t245) ∧ Aside0 (Kd.V (Kd.int .i64) 3 w' w.heap.size (fun k_ => (w.heap.size ≤ k_) ∧ some k_ ≠ (v3 : Value).ownBlock ∧ some k_ ≠ ((.slice (some ad248) t245.length co8) : Value).ownBlock) (.slice A248_0 (rd_L1 t245 x18_1).length c248_0) (rd_L1 t245 x18_1)) ∧ Aside0 (Kd.N (Kd.slice 3 (Kd.int .i64)) 27 w' w.heap.size (fun k_ => (w.heap.size ≤ k_) ∧ some k_ ≠ (v3 : Value).ownBlock) (.slice (some ad248) t245.length co8) t245) ∧ Aside0 (Kd.N (Kd.slice 3 (Kd.int .i64)) 27 w' w.heap.size (fun k_ => (w.heap.size ≤ k_) ∧ some k_ ≠ (v3 : Value).ownBlock) (.slice (some ad248) t245.length co8) t245) ∧ Aside0 (Below w.heap.size w w'))
     case atStart => exact ⟨(x3_1), (0), qc_, H', ⟨nA_ _⟩, ⟨by (with_reducible repeat (first | apply Kd.N_alloc | apply Kd.N_drewN | apply Kd.N_drew)); exact Kd.N_mono HO_3.out (fun _ hk => ⟨hk.1, ⟨hk.2.1, ⟨hk.2.2, hk.2.1⟩⟩⟩)⟩, ⟨by (with_reducible repeat (first | apply Kd.N_alloc | apply Kd.N_drewN | apply Kd.N_drew)); exact HO_4.out⟩, ⟨by (with_reducible repeat (first | apply Kd.V_alloc | apply Kd.V_drewN | apply Kd.V_drew)); exact Kd.V_mono HL248_0.out (fun _ hk => ⟨hk.1.1, ⟨hk.1.2, hk.2⟩⟩)⟩, ⟨by (with_reducible repeat (first | apply Kd.N_alloc | apply Kd.N_drewN | apply Kd.N_drew)); exact HO_16.out⟩, ⟨by (with_reducible repeat (first | apply Kd.N_alloc | apply Kd.N_drewN | apply Kd.N_drew)); exact HO_4.out⟩, ⟨hB_⟩⟩
     case round =>
      clear H'
      obtain ⟨x3_2, x24_2, rfl, HA, HK2, HO_3, HO_4, HO_6, HO_16, HO_22, HB⟩ := hrel
      cases gk with
      | zero => exact absurd HA.out (by simp [Z15.l1])
      | succ k2 =>
       have H := HA.out
       clear HA
       simp only [Z15.l1] at H
       by_cases c12 : x24_2 < (t245.length : Int)
       ·rw [if_pos c12] at H
        have c12b0 := oC_ c12
        clear c12
        have c13 := cp_ H
        replace H := ca_ H
        have c13b0 := oC_ c13
        clear c13
        have c14 := cp_ H
        replace H := ca_ H
        have c14b0 := oC_ c14
        clear c14
        obtain ⟨t251, A15, H⟩ := bi_ H
        by_cases c16 : t251 = true
        ·subst c16
         rw [if_pos rfl] at H
         obtain ⟨⟨t252, t255⟩, A17, H⟩ := bi_ H
         try dsimp only at H
         obtain ⟨t258, A18, H⟩ := bi_ H
         have H' := A_ H
         clear H
         have p249 : 0 ≤ (x24_2 : Int) := oB_ qe_
         have q249 : x24_2 < (t245.length : Int) := oB_ qe_
         obtain ⟨ad249, A249_0, c249_0, e249, hx249_0, hl249_0, hi249_0⟩ := at_L1 (Kd.N_reads' HO_22.out).2.2 x24_2 p249 q249
         obtain rfl : ad248 = ad249 := (by injection e249)
         obtain ⟨ce249, hce249, hMe249, hcc249⟩ := Kd.N_get HO_22.out [] x24_2 p249 (by first | exact q249 | exact oB_ qe_ | (have e_ := (Kd.N_reads' HO_22.out).1; omega))
         obtain ⟨ua249_0, uc249_0, rfl, ul249_0, ge249_0⟩ := Kd.FK_slice_open hMe249
         have hv249_0 := hcc249 0 _ rfl
         rw [Nat.add_zero, show ((Kd.slice 3 (Kd.int .i64))).sz = 1 from rfl, Nat.mul_one] at hv249_0
         replace hv249_0 := Option.some.inj (hv249_0.symm.trans hx249_0)
         injection hv249_0 with hva_ hvn_ hvc_
         rw [hva_] at ge249_0
         rw [hvc_] at ul249_0
         have HL249_0 := A_ (show Kd.V (Kd.int .i64) 3 _ w.heap.size _ _ (rd_L1 t245 x24_2) from Kd.V_mk ul249_0 ge249_0)
         clear hva_ hvn_ hvc_ ge249_0 ul249_0
         clear hcc249 hce249
         have HR249_0 := A_ hi249_0
         have HC249_0 := A_ hl249_0
         clear hi249_0 hl249_0
         replace p249 := eq_true p249
         replace q249 := eq_true q249
         go_wp2_with (first | ((with_reducible refine gB_ (N := 9) rfl ?_); refine bx_ 9 #[.slice none 0 0, .slice none 0 0] 38 ?_; intro gb250 hg w19 hbox hb; replace HO_3 := A_ (Kd.N_below (Kd.N_elderB (by (with_reducible repeat (first | apply Kd.N_alloc | apply Kd.N_drewN | apply Kd.N_drew)); exact HO_3.out) gb250 (Nat.le_of_eq hg.symm)) hb); replace HO_4 := A_ (Kd.N_below (Kd.N_elderB (by (with_reducible repeat (first | apply Kd.N_alloc | apply Kd.N_drewN | apply Kd.N_drew)); exact HO_4.out) gb250 (Nat.le_of_eq hg.symm)) hb); replace HO_6 := A_ (Kd.V_below (Kd.V_elderB (by (with_reducible repeat (first | apply Kd.V_alloc | apply Kd.V_drewN | apply Kd.V_drew)); exact HO_6.out) gb250 (Nat.le_of_eq hg.symm)) hb); replace HO_16 := A_ (Kd.N_below (Kd.N_elderB (by (with_reducible repeat (first | apply Kd.N_alloc | apply Kd.N_drewN | apply Kd.N_drew)); exact HO_16.out) gb250 (Nat.le_of_eq hg.symm)) hb); replace HO_22 := A_ (Kd.N_below (Kd.N_elderB (by (with_reducible repeat (first | apply Kd.N_alloc | apply Kd.N_drewN | apply Kd.N_drew)); exact HO_22.out) gb250 (Nat.le_of_eq hg.symm)) hb); replace HL249_0 := A_ (Kd.V_below (Kd.V_elderB (by (with_reducible repeat (first | apply Kd.V_alloc | apply Kd.V_drewN | apply Kd.V_drew)); exact HL249_0.out) gb250 (Nat.le_of_eq hg.symm)) hb); replace HR249_0 := A_ (cD_ (by repeat (first | (with_reducible exact HR249_0.out) | (with_reducible refine cA_ ?_ _) | (with_reducible refine cB_ ?_ _) | (with_reducible refine cC_ ?_) | exact HR249_0.out)) hb); have BK250 := A_ hbox; have GW250 := gw_ w hg; have GE250 := GW250; replace HB := b1_ hb; clear hb hbox hg; obtain ⟨hcz20_0, hcz20_1, hfz20_0, hfz20_1⟩ := c2_ BK250) | ((with_reducible refine gA_ (f := 33) rfl ?_); refine gL_ (some 32) Tryz.func33 #[.agg #[.slice A248_0 (rd_L1 t245 x18_1).length c248_0, .slice A249_0 (rd_L1 t245 x24_2).length c249_0]] rfl qa_ ?_; (with_reducible refine (Z34.calls k2 _ _ (rd_L1 t245 x18_1) _ _ (rd_L1 t245 x24_2) true _ ?side1 ?side2 ?side3 ?side4 A15.out).mono ?_); (case side1 => refine (Kd.V_reads' (e := 3) (base := w.heap.size) (ok := fun k_ => (((w.heap.size ≤ k_) ∧ (some k_ ≠ (u3 : Value).ownBlock ∧ some k_ ≠ (.slice (some ad248) t245.length co8 : Value).ownBlock)) ∧ k_ ≠ gb250)) (n := (rd_L1 t245 x18_1).length) (c := c248_0) ?_).2.2; exact (by (with_reducible repeat (first | apply Kd.V_alloc | apply Kd.V_drewN | apply Kd.V_drew)); exact (Kd.V_mono (Kd.V_far (p := ⟨gb250, 1, none⟩) (Kd.V_far (p := ⟨gb250, 0, none⟩) (Kd.V_mono HO_6.out (fun k_ hk => (⟨hk, hk.2⟩ : _ ∧ k_ ≠ gb250))) (fun _ hk => hk.2) (.slice A248_0 (rd_L1 t245 x18_1).length c248_0)) (fun _ hk => hk.2) (.slice A249_0 (rd_L1 t245 x24_2).length c249_0)) (fun _ h_ => h_.1)))); (case side2 => exact (Kd.V_reads' HO_6.out).2.1); (case side3 => repeat (first | exact ((Kd.V_reads' (by (with_reducible repeat (first | apply Kd.V_alloc | apply Kd.V_drewN | apply Kd.V_drew)); exact (Kd.V_mono (Kd.V_far (p := ⟨gb250, 1, none⟩) (Kd.V_far (p := ⟨gb250, 0, none⟩) (Kd.V_mono HL249_0.out (fun k_ hk => (⟨hk, hk.2⟩ : _ ∧ k_ ≠ gb250))) (fun _ hk => hk.2) (.slice A248_0 (rd_L1 t245 x18_1).length c248_0)) (fun _ hk => hk.2) (.slice A249_0 (rd_L1 t245 x24_2).length c249_0)) (fun _ h_ => h_.1)))).2.2) | (with_reducible first | refine cA_ ?_ _ | refine cB_ ?_ _ | refine cC_ ?_))); (case side4 => exact HC249_0.out); rintro e w21 ⟨rfl, hb⟩; refine ⟨_, rfl, ?_⟩; replace HO_3 := A_ (Kd.N_below (by (with_reducible repeat (first | apply Kd.N_alloc | apply Kd.N_drewN | apply Kd.N_drew)); exact (Kd.N_mono (Kd.N_far (p := ⟨gb250, 1, none⟩) (Kd.N_far (p := ⟨gb250, 0, none⟩) (Kd.N_mono HO_3.out (fun k_ hk => (⟨hk, hk.2⟩ : _ ∧ k_ ≠ gb250))) (fun _ hk => hk.2) (.slice A248_0 (rd_L1 t245 x18_1).length c248_0)) (fun _ hk => hk.2) (.slice A249_0 (rd_L1 t245 x24_2).length c249_0)) (fun _ h_ => h_.1))) hb); replace HO_4 := A_ (Kd.N_below (by (with_reducible repeat (first | apply Kd.N_alloc | apply Kd.N_drewN | apply Kd.N_drew)); exact (Kd.N_mono (Kd.N_far (p := ⟨gb250, 1, none⟩) (Kd.N_far (p := ⟨gb250, 0, none⟩) (Kd.N_mono HO_4.out (fun k_ hk => (⟨hk, hk.2⟩ : _ ∧ k_ ≠ gb250))) (fun _ hk => hk.2) (.slice A248_0 (rd_L1 t245 x18_1).length c248_0)) (fun _ hk => hk.2) (.slice A249_0 (rd_L1 t245 x24_2).length c249_0)) (fun _ h_ => h_.1))) hb); replace HO_6 := A_ (Kd.V_below (by (with_reducible repeat (first | apply Kd.V_alloc | apply Kd.V_drewN | apply Kd.V_drew)); exact (Kd.V_mono (Kd.V_far (p := ⟨gb250, 1, none⟩) (Kd.V_far (p := ⟨gb250, 0, none⟩) (Kd.V_mono HO_6.out (fun k_ hk => (⟨hk, hk.2⟩ : _ ∧ k_ ≠ gb250))) (fun _ hk => hk.2) (.slice A248_0 (rd_L1 t245 x18_1).length c248_0)) (fun _ hk => hk.2) (.slice A249_0 (rd_L1 t245 x24_2).length c249_0)) (fun _ h_ => h_.1))) hb); replace HO_16 := A_ (Kd.N_below (by (with_reducible repeat (first | apply Kd.N_alloc | apply Kd.N_drewN | apply Kd.N_drew)); exact (Kd.N_mono (Kd.N_far (p := ⟨gb250, 1, none⟩) (Kd.N_far (p := ⟨gb250, 0, none⟩) (Kd.N_mono HO_16.out (fun k_ hk => (⟨hk, hk.2⟩ : _ ∧ k_ ≠ gb250))) (fun _ hk => hk.2) (.slice A248_0 (rd_L1 t245 x18_1).length c248_0)) (fun _ hk => hk.2) (.slice A249_0 (rd_L1 t245 x24_2).length c249_0)) (fun _ h_ => h_.1))) hb); replace HO_22 := A_ (Kd.N_below (by (with_reducible repeat (first | apply Kd.N_alloc | apply Kd.N_drewN | apply Kd.N_drew)); exact (Kd.N_mono (Kd.N_far (p := ⟨gb250, 1, none⟩) (Kd.N_far (p := ⟨gb250, 0, none⟩) (Kd.N_mono HO_22.out (fun k_ hk => (⟨hk, hk.2⟩ : _ ∧ k_ ≠ gb250))) (fun _ hk => hk.2) (.slice A248_0 (rd_L1 t245 x18_1).length c248_0)) (fun _ hk => hk.2) (.slice A249_0 (rd_L1 t245 x24_2).length c249_0)) (fun _ h_ => h_.1))) hb); replace HR249_0 := A_ (cD_ ((Kd.V_reads' (by (with_reducible repeat (first | apply Kd.V_alloc | apply Kd.V_drewN | apply Kd.V_drew)); exact (Kd.V_mono (Kd.V_far (p := ⟨gb250, 1, none⟩) (Kd.V_far (p := ⟨gb250, 0, none⟩) (Kd.V_mono HL249_0.out (fun k_ hk => (⟨hk, hk.2⟩ : _ ∧ k_ ≠ gb250))) (fun _ hk => hk.2) (.slice A248_0 (rd_L1 t245 x18_1).length c248_0)) (fun _ hk => hk.2) (.slice A249_0 (rd_L1 t245 x24_2).length c249_0)) (fun _ h_ => h_.1)))).2.2) hb); replace HL249_0 := A_ (Kd.V_below (by (with_reducible repeat (first | apply Kd.V_alloc | apply Kd.V_drewN | apply Kd.V_drew)); exact (Kd.V_mono (Kd.V_far (p := ⟨gb250, 1, none⟩) (Kd.V_far (p := ⟨gb250, 0, none⟩) (Kd.V_mono HL249_0.out (fun k_ hk => (⟨hk, hk.2⟩ : _ ∧ k_ ≠ gb250))) (fun _ hk => hk.2) (.slice A248_0 (rd_L1 t245 x18_1).length c248_0)) (fun _ hk => hk.2) (.slice A249_0 (rd_L1 t245 x24_2).length c249_0)) (fun _ h_ => h_.1))) hb); replace BK250 := A_ (kE_ (g := gb250) (o := .cells #[.slice A248_0 (rd_L1 t245 x18_1).length c248_0, .slice A249_0 (rd_L1 t245 x24_2).length c249_0] 38 (0, 0)) qp_ hb); replace HB := b1_ hb; clear hb; obtain ⟨hcz22_0, hcz22_1, hfz22_0, hfz22_1⟩ := c2_ BK250) | ((with_reducible refine gA_ (f := 35) rfl ?_); refine gL_ (some 35) Tryz.func35 #[.agg #[.slice A248_0 (rd_L1 t245 x18_1).length c248_0, .slice A249_0 (rd_L1 t245 x24_2).length c249_0]] rfl qa_ ?_; (with_reducible refine (Z54.calls k2 _ _ (rd_L1 t245 x18_1) _ _ (rd_L1 t245 x24_2) t252 t255 _ ?side1 ?side2 ?side3 ?side4 A17.out).mono ?_); (case side1 => exact cw_ ((Kd.V_reads' HO_6.out).2.2)); (case side2 => exact (Kd.V_reads' HO_6.out).2.1); (case side3 => repeat (first | exact (by repeat (first | (with_reducible exact HR249_0.out) | (with_reducible refine cA_ ?_ _) | (with_reducible refine cB_ ?_ _) | (with_reducible refine cC_ ?_) | exact HR249_0.out)) | (with_reducible first | refine cA_ ?_ _ | refine cB_ ?_ _ | refine cC_ ?_))); (case side4 => exact HC249_0.out); rintro e w23 ⟨v253, v256, rfl, ho0, ho1, hb⟩; refine ⟨_, rfl, ?_⟩; replace HO_3 := A_ (Kd.N_mono (Kd.N_told (Kd.N_told (Kd.N_old (by (with_reducible repeat (first | apply Kd.N_alloc | apply Kd.N_drewN | apply Kd.N_drew)); exact HO_3.out) hb) (Kd.R_base ho0)) (Kd.R_base ho1)) (fun _ h_ => h_.1)); replace HO_4 := A_ (Kd.N_mono (Kd.N_told (Kd.N_told (Kd.N_old (by (with_reducible repeat (first | apply Kd.N_alloc | apply Kd.N_drewN | apply Kd.N_drew)); exact HO_4.out) hb) (Kd.R_base ho0)) (Kd.R_base ho1)) (fun _ h_ => h_.1)); replace HO_6 := A_ (Kd.V_mono (Kd.V_told (Kd.V_told (Kd.V_old (by (with_reducible repeat (first | apply Kd.V_alloc | apply Kd.V_drewN | apply Kd.V_drew)); exact HO_6.out) hb) (Kd.R_base ho0)) (Kd.R_base ho1)) (fun _ h_ => h_.1)); replace HO_16 := A_ (Kd.N_mono (Kd.N_told (Kd.N_told (Kd.N_old (by (with_reducible repeat (first | apply Kd.N_alloc | apply Kd.N_drewN | apply Kd.N_drew)); exact HO_16.out) hb) (Kd.R_base ho0)) (Kd.R_base ho1)) (fun _ h_ => h_.1)); replace HO_22 := A_ (Kd.N_mono (Kd.N_told (Kd.N_told (Kd.N_old (by (with_reducible repeat (first | apply Kd.N_alloc | apply Kd.N_drewN | apply Kd.N_drew)); exact HO_22.out) hb) (Kd.R_base ho0)) (Kd.R_base ho1)) (fun _ h_ => h_.1)); replace HL249_0 := A_ (Kd.V_mono (Kd.V_told (Kd.V_told (Kd.V_old (by (with_reducible repeat (first | apply Kd.V_alloc | apply Kd.V_drewN | apply Kd.V_drew)); exact HL249_0.out) hb) (Kd.R_base ho0)) (Kd.R_base ho1)) (fun _ h_ => h_.1)); have HO254 := A_ (rE_ (Kd.R_newM (M := fun k_ => (w.heap.size ≤ k_)) ho0 (bF_ hB_) (fun k_ h_ => h_)) (bF_ hB_)); have HO257 := A_ (rE_ (Kd.R_newM (M := fun k_ => (w.heap.size ≤ k_)) ho1 (bF_ hB_) (fun k_ h_ => h_)) (bF_ hB_)); replace HR249_0 := A_ (cD_ (by repeat (first | (with_reducible exact HR249_0.out) | (with_reducible refine cA_ ?_ _) | (with_reducible refine cB_ ?_ _) | (with_reducible refine cC_ ?_) | exact HR249_0.out)) hb); replace BK250 := bb_ BK250 hb; replace HB := b1_ hb; clear hb ho0 ho1; obtain ⟨Ao24, co24, eo24⟩ := Kd.N_slice HO_3.out; subst eo24; obtain ⟨Ao25, co25, eo25⟩ := Kd.R_slice HO254.out; subst eo25; obtain ⟨Ao26, co26, eo26⟩ := Kd.R_slice HO257.out; subst eo26) | ((with_reducible refine gA_ (f := 34) rfl ?_); refine gL_ (some 36) Tryz.func34 #[.slice Ao24 x3_2.length co24, .agg #[.slice Ao25 t252.length co25, .slice Ao26 t255.length co26]] rfl qa_ ?_; (with_reducible refine (Z39.calls k2 (fun k_ => (((((w.heap.size ≤ k_) ∧ (some k_ ≠ (.slice (some ad248) t245.length co8 : Value).ownBlock ∧ (some k_ ≠ (.slice (some ad248) t245.length co8 : Value).ownBlock ∧ some k_ ≠ (.slice (some ad248) t245.length co8 : Value).ownBlock))) ∧ k_ ≠ gb250) ∧ some k_ ≠ (.slice Ao25 t252.length co25 : Value).ownBlock) ∧ some k_ ≠ (.slice Ao26 t255.length co26 : Value).ownBlock)) _ _ x3_2 (fun k_ => some k_ = (.slice Ao25 t252.length co25 : Value).ownBlock) _ _ t252 (fun k_ => some k_ = (.slice Ao26 t255.length co26 : Value).ownBlock) _ _ t255 t258 _ (Kd.N_V (HO_3.out)) (Kd.R_V (Kd.R_tight rfl (Kd.R_types (Kd.R_apart' (Kd.R_apart' (Kd.R_apart' (Kd.R_apart' (HO254.out) (Kd.N_typed HO_3.out) (by decide)) (Kd.N_typed HO_4.out) (by decide)) (Kd.N_typed HO_16.out) (by decide)) (Kd.N_typed HO_22.out) (by decide)) BK250.out (by decide)))) (Kd.R_V (Kd.R_tight rfl (Kd.R_types (Kd.R_apart' (Kd.R_apart' (Kd.R_apart' (Kd.R_apart' (HO257.out) (Kd.N_typed HO_3.out) (by decide)) (Kd.N_typed HO_4.out) (by decide)) (Kd.N_typed HO_16.out) (by decide)) (Kd.N_typed HO_22.out) (by decide)) BK250.out (by decide)))) A18.out).mono ?_); rintro e w27 ⟨v259, rfl, ho0, hb⟩; refine ⟨_, rfl, ?_⟩; replace HO_6 := A_ (Kd.V_elder' (by (with_reducible repeat (first | apply Kd.V_alloc | apply Kd.V_drewN | apply Kd.V_drew)); exact HO_6.out) (Kd.N_base ho0) hb); replace HL249_0 := A_ (Kd.V_elder' (by (with_reducible repeat (first | apply Kd.V_alloc | apply Kd.V_drewN | apply Kd.V_drew)); exact HL249_0.out) (Kd.N_base ho0) hb); have HO260 := A_ (Kd.N_lower (Kd.N_mono (ok' := fun k_ => (w.heap.size ≤ k_) ∧ some k_ ≠ (.slice (some ad248) t245.length co8 : Value).ownBlock ∧ some k_ ≠ (.slice (some ad248) t245.length co8 : Value).ownBlock ∧ some k_ ≠ (.slice (some ad248) t245.length co8 : Value).ownBlock ∧ k_ ≠ gb250) ho0 (fun k_ hk_ => ⟨Or.elim hk_ (fun hs_ => Or.elim hs_ (fun hs_ => hs_.1.1.1.1) (fun hs_ => Or.elim hs_ (fun hs_ => ((Kd.R_types (Kd.R_apart' (Kd.R_apart' (Kd.R_apart' (Kd.R_apart' (HO254.out) (Kd.N_typed HO_3.out) (by decide)) (Kd.N_typed HO_4.out) (by decide)) (Kd.N_typed HO_16.out) (by decide)) (Kd.N_typed HO_22.out) (by decide)) BK250.out (by decide)).1 k_ hs_.symm).1.1.1.1.1.1) (fun hs_ => ((Kd.R_types (Kd.R_apart' (Kd.R_apart' (Kd.R_apart' (Kd.R_apart' (HO257.out) (Kd.N_typed HO_3.out) (by decide)) (Kd.N_typed HO_4.out) (by decide)) (Kd.N_typed HO_16.out) (by decide)) (Kd.N_typed HO_22.out) (by decide)) BK250.out (by decide)).1 k_ hs_.symm).1.1.1.1.1.1))) (fun hn_ => (Nat.le_trans (bF_ hB_) hn_)), Or.elim hk_ (fun hs_ => Or.elim hs_ (fun hs_ => hs_.1.1.1.2.1) (fun hs_ => Or.elim hs_ (fun hs_ => ((Kd.R_types (Kd.R_apart' (Kd.R_apart' (Kd.R_apart' (Kd.R_apart' (HO254.out) (Kd.N_typed HO_3.out) (by decide)) (Kd.N_typed HO_4.out) (by decide)) (Kd.N_typed HO_16.out) (by decide)) (Kd.N_typed HO_22.out) (by decide)) BK250.out (by decide)).1 k_ hs_.symm).1.1.1.2) (fun hs_ => ((Kd.R_types (Kd.R_apart' (Kd.R_apart' (Kd.R_apart' (Kd.R_apart' (HO257.out) (Kd.N_typed HO_3.out) (by decide)) (Kd.N_typed HO_4.out) (by decide)) (Kd.N_typed HO_16.out) (by decide)) (Kd.N_typed HO_22.out) (by decide)) BK250.out (by decide)).1 k_ hs_.symm).1.1.1.2))) (fun hn_ => (Kd.fresh' (Kd.N_lt (by (with_reducible repeat (first | apply Kd.N_alloc | apply Kd.N_drewN | apply Kd.N_drew)); exact HO_4.out)) k_ hn_)), Or.elim hk_ (fun hs_ => Or.elim hs_ (fun hs_ => hs_.1.1.1.2.2.1) (fun hs_ => Or.elim hs_ (fun hs_ => ((Kd.R_types (Kd.R_apart' (Kd.R_apart' (Kd.R_apart' (Kd.R_apart' (HO254.out) (Kd.N_typed HO_3.out) (by decide)) (Kd.N_typed HO_4.out) (by decide)) (Kd.N_typed HO_16.out) (by decide)) (Kd.N_typed HO_22.out) (by decide)) BK250.out (by decide)).1 k_ hs_.symm).1.1.2) (fun hs_ => ((Kd.R_types (Kd.R_apart' (Kd.R_apart' (Kd.R_apart' (Kd.R_apart' (HO257.out) (Kd.N_typed HO_3.out) (by decide)) (Kd.N_typed HO_4.out) (by decide)) (Kd.N_typed HO_16.out) (by decide)) (Kd.N_typed HO_22.out) (by decide)) BK250.out (by decide)).1 k_ hs_.symm).1.1.2))) (fun hn_ => (Kd.fresh' (Kd.N_lt (by (with_reducible repeat (first | apply Kd.N_alloc | apply Kd.N_drewN | apply Kd.N_drew)); exact HO_16.out)) k_ hn_)), Or.elim hk_ (fun hs_ => Or.elim hs_ (fun hs_ => hs_.1.1.1.2.2.2) (fun hs_ => Or.elim hs_ (fun hs_ => ((Kd.R_types (Kd.R_apart' (Kd.R_apart' (Kd.R_apart' (Kd.R_apart' (HO254.out) (Kd.N_typed HO_3.out) (by decide)) (Kd.N_typed HO_4.out) (by decide)) (Kd.N_typed HO_16.out) (by decide)) (Kd.N_typed HO_22.out) (by decide)) BK250.out (by decide)).1 k_ hs_.symm).1.2) (fun hs_ => ((Kd.R_types (Kd.R_apart' (Kd.R_apart' (Kd.R_apart' (Kd.R_apart' (HO257.out) (Kd.N_typed HO_3.out) (by decide)) (Kd.N_typed HO_4.out) (by decide)) (Kd.N_typed HO_16.out) (by decide)) (Kd.N_typed HO_22.out) (by decide)) BK250.out (by decide)).1 k_ hs_.symm).1.2))) (fun hn_ => (Kd.fresh' (Kd.N_lt (by (with_reducible repeat (first | apply Kd.N_alloc | apply Kd.N_drewN | apply Kd.N_drew)); exact HO_22.out)) k_ hn_)), Or.elim hk_ (fun hs_ => Or.elim hs_ (fun hs_ => hs_.1.1.2) (fun hs_ => Or.elim hs_ (fun hs_ => ((Kd.R_types (Kd.R_apart' (Kd.R_apart' (Kd.R_apart' (Kd.R_apart' (HO254.out) (Kd.N_typed HO_3.out) (by decide)) (Kd.N_typed HO_4.out) (by decide)) (Kd.N_typed HO_16.out) (by decide)) (Kd.N_typed HO_22.out) (by decide)) BK250.out (by decide)).1 k_ hs_.symm).2) (fun hs_ => ((Kd.R_types (Kd.R_apart' (Kd.R_apart' (Kd.R_apart' (Kd.R_apart' (HO257.out) (Kd.N_typed HO_3.out) (by decide)) (Kd.N_typed HO_4.out) (by decide)) (Kd.N_typed HO_16.out) (by decide)) (Kd.N_typed HO_22.out) (by decide)) BK250.out (by decide)).1 k_ hs_.symm).2))) (fun hn_ => (Kd.freshB (kk_ BK250) k_ hn_))⟩)) (bF_ hB_)); replace HO_3 := A_ (Kd.N_elder' (by (with_reducible repeat (first | apply Kd.N_alloc | apply Kd.N_drewN | apply Kd.N_drew)); exact HO_3.out) (Kd.N_base ho0) hb); replace HO_4 := A_ (Kd.N_elder' (by (with_reducible repeat (first | apply Kd.N_alloc | apply Kd.N_drewN | apply Kd.N_drew)); exact HO_4.out) (Kd.N_base ho0) hb); replace HO_16 := A_ (Kd.N_elder' (by (with_reducible repeat (first | apply Kd.N_alloc | apply Kd.N_drewN | apply Kd.N_drew)); exact HO_16.out) (Kd.N_base ho0) hb); replace HO_22 := A_ (Kd.N_elder' (by (with_reducible repeat (first | apply Kd.N_alloc | apply Kd.N_drewN | apply Kd.N_drew)); exact HO_22.out) (Kd.N_base ho0) hb); replace HO254 := rb_ HO254 hb; replace HO257 := rb_ HO257 hb; replace HR249_0 := A_ (cD_ (by repeat (first | (with_reducible exact HR249_0.out) | (with_reducible refine cA_ ?_ _) | (with_reducible refine cB_ ?_ _) | (with_reducible refine cC_ ?_) | exact HR249_0.out)) hb); replace BK250 := bb_ BK250 hb; replace HB := b1_ hb; clear hb ho0))
         go_roundg k2
         case measure => have := HK1.out; have := HK2.out; omega
         case rel => exact ⟨(t258), (wrap64 (x24_2 + 1)), qc_, H', ⟨by have := HK1.out; have := HK2.out; omega⟩, ⟨by (with_reducible repeat (first | apply Kd.N_alloc | apply Kd.N_drewN | apply Kd.N_drew)); exact Kd.N_mono HO260.out (fun _ hk => ⟨hk.1, ⟨hk.2.1, ⟨hk.2.2.1, hk.2.2.2.1⟩⟩⟩)⟩, ⟨by (with_reducible repeat (first | apply Kd.N_alloc | apply Kd.N_drewN | apply Kd.N_drew)); exact Kd.N_mono HO_4.out (fun _ hk => ⟨hk.1.1.1.1.1, hk.2⟩)⟩, ⟨by (with_reducible repeat (first | apply Kd.V_alloc | apply Kd.V_drewN | apply Kd.V_drew)); exact Kd.V_mono HO_6.out (fun _ hk => ⟨hk.1.1.1.1.1, ⟨hk.2, hk.1.1.1.1.2.2⟩⟩)⟩, ⟨by (with_reducible repeat (first | apply Kd.N_alloc | apply Kd.N_drewN | apply Kd.N_drew)); exact Kd.N_mono HO_16.out (fun _ hk => ⟨hk.1.1.1.1.1, hk.2⟩)⟩, ⟨by (with_reducible repeat (first | apply Kd.N_alloc | apply Kd.N_drewN | apply Kd.N_drew)); exact Kd.N_mono HO_22.out (fun _ hk => ⟨hk.1.1.1.1.1, hk.2⟩)⟩, ⟨hB_⟩⟩
        ·replace c16 := Bool.eq_false_iff.mpr c16
         subst c16
         have H1 : (Z15.l1 k2 x3_2 t245 (rd_L1 t245 x18_1) t245 (t245.length : Int) x18_1 t245 (t245.length : Int) (wrap64 (x24_2 + 1))) = some r := by rw [if_neg (show ¬ (false = true) by decide)] at H; exact H
         clear H
         have H := H1
         clear H1
         have H' := A_ H
         clear H
         have p249 : 0 ≤ (x24_2 : Int) := oB_ qe_
         have q249 : x24_2 < (t245.length : Int) := oB_ qe_
         obtain ⟨ad249, A249_0, c249_0, e249, hx249_0, hl249_0, hi249_0⟩ := at_L1 (Kd.N_reads' HO_22.out).2.2 x24_2 p249 q249
         obtain rfl : ad248 = ad249 := (by injection e249)
         obtain ⟨ce249, hce249, hMe249, hcc249⟩ := Kd.N_get HO_22.out [] x24_2 p249 (by first | exact q249 | exact oB_ qe_ | (have e_ := (Kd.N_reads' HO_22.out).1; omega))
         obtain ⟨ua249_0, uc249_0, rfl, ul249_0, ge249_0⟩ := Kd.FK_slice_open hMe249
         have hv249_0 := hcc249 0 _ rfl
         rw [Nat.add_zero, show ((Kd.slice 3 (Kd.int .i64))).sz = 1 from rfl, Nat.mul_one] at hv249_0
         replace hv249_0 := Option.some.inj (hv249_0.symm.trans hx249_0)
         injection hv249_0 with hva_ hvn_ hvc_
         rw [hva_] at ge249_0
         rw [hvc_] at ul249_0
         have HL249_0 := A_ (show Kd.V (Kd.int .i64) 3 _ w.heap.size _ _ (rd_L1 t245 x24_2) from Kd.V_mk ul249_0 ge249_0)
         clear hva_ hvn_ hvc_ ge249_0 ul249_0
         clear hcc249 hce249
         have HR249_0 := A_ hi249_0
         have HC249_0 := A_ hl249_0
         clear hi249_0 hl249_0
         replace p249 := eq_true p249
         replace q249 := eq_true q249
         go_wp2_with (first | ((with_reducible refine gB_ (N := 9) rfl ?_); refine bx_ 9 #[.slice none 0 0, .slice none 0 0] 38 ?_; intro gb250 hg w28 hbox hb; replace HO_3 := A_ (Kd.N_below (Kd.N_elderB (by (with_reducible repeat (first | apply Kd.N_alloc | apply Kd.N_drewN | apply Kd.N_drew)); exact HO_3.out) gb250 (Nat.le_of_eq hg.symm)) hb); replace HO_4 := A_ (Kd.N_below (Kd.N_elderB (by (with_reducible repeat (first | apply Kd.N_alloc | apply Kd.N_drewN | apply Kd.N_drew)); exact HO_4.out) gb250 (Nat.le_of_eq hg.symm)) hb); replace HO_6 := A_ (Kd.V_below (Kd.V_elderB (by (with_reducible repeat (first | apply Kd.V_alloc | apply Kd.V_drewN | apply Kd.V_drew)); exact HO_6.out) gb250 (Nat.le_of_eq hg.symm)) hb); replace HO_16 := A_ (Kd.N_below (Kd.N_elderB (by (with_reducible repeat (first | apply Kd.N_alloc | apply Kd.N_drewN | apply Kd.N_drew)); exact HO_16.out) gb250 (Nat.le_of_eq hg.symm)) hb); replace HO_22 := A_ (Kd.N_below (Kd.N_elderB (by (with_reducible repeat (first | apply Kd.N_alloc | apply Kd.N_drewN | apply Kd.N_drew)); exact HO_22.out) gb250 (Nat.le_of_eq hg.symm)) hb); replace HL249_0 := A_ (Kd.V_below (Kd.V_elderB (by (with_reducible repeat (first | apply Kd.V_alloc | apply Kd.V_drewN | apply Kd.V_drew)); exact HL249_0.out) gb250 (Nat.le_of_eq hg.symm)) hb); replace HR249_0 := A_ (cD_ (by repeat (first | (with_reducible exact HR249_0.out) | (with_reducible refine cA_ ?_ _) | (with_reducible refine cB_ ?_ _) | (with_reducible refine cC_ ?_) | exact HR249_0.out)) hb); have BK250 := A_ hbox; have GW250 := gw_ w hg; have GE250 := GW250; replace HB := b1_ hb; clear hb hbox hg; obtain ⟨hcz29_0, hcz29_1, hfz29_0, hfz29_1⟩ := c2_ BK250) | ((with_reducible refine gA_ (f := 33) rfl ?_); refine gL_ (some 32) Tryz.func33 #[.agg #[.slice A248_0 (rd_L1 t245 x18_1).length c248_0, .slice A249_0 (rd_L1 t245 x24_2).length c249_0]] rfl qa_ ?_; (with_reducible refine (Z34.calls k2 _ _ (rd_L1 t245 x18_1) _ _ (rd_L1 t245 x24_2) false _ ?side1 ?side2 ?side3 ?side4 A15.out).mono ?_); (case side1 => refine (Kd.V_reads' (e := 3) (base := w.heap.size) (ok := fun k_ => (((w.heap.size ≤ k_) ∧ (some k_ ≠ (u3 : Value).ownBlock ∧ some k_ ≠ (.slice (some ad248) t245.length co8 : Value).ownBlock)) ∧ k_ ≠ gb250)) (n := (rd_L1 t245 x18_1).length) (c := c248_0) ?_).2.2; exact (by (with_reducible repeat (first | apply Kd.V_alloc | apply Kd.V_drewN | apply Kd.V_drew)); exact (Kd.V_mono (Kd.V_far (p := ⟨gb250, 1, none⟩) (Kd.V_far (p := ⟨gb250, 0, none⟩) (Kd.V_mono HO_6.out (fun k_ hk => (⟨hk, hk.2⟩ : _ ∧ k_ ≠ gb250))) (fun _ hk => hk.2) (.slice A248_0 (rd_L1 t245 x18_1).length c248_0)) (fun _ hk => hk.2) (.slice A249_0 (rd_L1 t245 x24_2).length c249_0)) (fun _ h_ => h_.1)))); (case side2 => exact (Kd.V_reads' HO_6.out).2.1); (case side3 => repeat (first | exact ((Kd.V_reads' (by (with_reducible repeat (first | apply Kd.V_alloc | apply Kd.V_drewN | apply Kd.V_drew)); exact (Kd.V_mono (Kd.V_far (p := ⟨gb250, 1, none⟩) (Kd.V_far (p := ⟨gb250, 0, none⟩) (Kd.V_mono HL249_0.out (fun k_ hk => (⟨hk, hk.2⟩ : _ ∧ k_ ≠ gb250))) (fun _ hk => hk.2) (.slice A248_0 (rd_L1 t245 x18_1).length c248_0)) (fun _ hk => hk.2) (.slice A249_0 (rd_L1 t245 x24_2).length c249_0)) (fun _ h_ => h_.1)))).2.2) | (with_reducible first | refine cA_ ?_ _ | refine cB_ ?_ _ | refine cC_ ?_))); (case side4 => exact HC249_0.out); rintro e w30 ⟨rfl, hb⟩; refine ⟨_, rfl, ?_⟩; replace HO_3 := A_ (Kd.N_below (by (with_reducible repeat (first | apply Kd.N_alloc | apply Kd.N_drewN | apply Kd.N_drew)); exact (Kd.N_mono (Kd.N_far (p := ⟨gb250, 1, none⟩) (Kd.N_far (p := ⟨gb250, 0, none⟩) (Kd.N_mono HO_3.out (fun k_ hk => (⟨hk, hk.2⟩ : _ ∧ k_ ≠ gb250))) (fun _ hk => hk.2) (.slice A248_0 (rd_L1 t245 x18_1).length c248_0)) (fun _ hk => hk.2) (.slice A249_0 (rd_L1 t245 x24_2).length c249_0)) (fun _ h_ => h_.1))) hb); replace HO_4 := A_ (Kd.N_below (by (with_reducible repeat (first | apply Kd.N_alloc | apply Kd.N_drewN | apply Kd.N_drew)); exact (Kd.N_mono (Kd.N_far (p := ⟨gb250, 1, none⟩) (Kd.N_far (p := ⟨gb250, 0, none⟩) (Kd.N_mono HO_4.out (fun k_ hk => (⟨hk, hk.2⟩ : _ ∧ k_ ≠ gb250))) (fun _ hk => hk.2) (.slice A248_0 (rd_L1 t245 x18_1).length c248_0)) (fun _ hk => hk.2) (.slice A249_0 (rd_L1 t245 x24_2).length c249_0)) (fun _ h_ => h_.1))) hb); replace HO_6 := A_ (Kd.V_below (by (with_reducible repeat (first | apply Kd.V_alloc | apply Kd.V_drewN | apply Kd.V_drew)); exact (Kd.V_mono (Kd.V_far (p := ⟨gb250, 1, none⟩) (Kd.V_far (p := ⟨gb250, 0, none⟩) (Kd.V_mono HO_6.out (fun k_ hk => (⟨hk, hk.2⟩ : _ ∧ k_ ≠ gb250))) (fun _ hk => hk.2) (.slice A248_0 (rd_L1 t245 x18_1).length c248_0)) (fun _ hk => hk.2) (.slice A249_0 (rd_L1 t245 x24_2).length c249_0)) (fun _ h_ => h_.1))) hb); replace HO_16 := A_ (Kd.N_below (by (with_reducible repeat (first | apply Kd.N_alloc | apply Kd.N_drewN | apply Kd.N_drew)); exact (Kd.N_mono (Kd.N_far (p := ⟨gb250, 1, none⟩) (Kd.N_far (p := ⟨gb250, 0, none⟩) (Kd.N_mono HO_16.out (fun k_ hk => (⟨hk, hk.2⟩ : _ ∧ k_ ≠ gb250))) (fun _ hk => hk.2) (.slice A248_0 (rd_L1 t245 x18_1).length c248_0)) (fun _ hk => hk.2) (.slice A249_0 (rd_L1 t245 x24_2).length c249_0)) (fun _ h_ => h_.1))) hb); replace HO_22 := A_ (Kd.N_below (by (with_reducible repeat (first | apply Kd.N_alloc | apply Kd.N_drewN | apply Kd.N_drew)); exact (Kd.N_mono (Kd.N_far (p := ⟨gb250, 1, none⟩) (Kd.N_far (p := ⟨gb250, 0, none⟩) (Kd.N_mono HO_22.out (fun k_ hk => (⟨hk, hk.2⟩ : _ ∧ k_ ≠ gb250))) (fun _ hk => hk.2) (.slice A248_0 (rd_L1 t245 x18_1).length c248_0)) (fun _ hk => hk.2) (.slice A249_0 (rd_L1 t245 x24_2).length c249_0)) (fun _ h_ => h_.1))) hb); replace HR249_0 := A_ (cD_ ((Kd.V_reads' (by (with_reducible repeat (first | apply Kd.V_alloc | apply Kd.V_drewN | apply Kd.V_drew)); exact (Kd.V_mono (Kd.V_far (p := ⟨gb250, 1, none⟩) (Kd.V_far (p := ⟨gb250, 0, none⟩) (Kd.V_mono HL249_0.out (fun k_ hk => (⟨hk, hk.2⟩ : _ ∧ k_ ≠ gb250))) (fun _ hk => hk.2) (.slice A248_0 (rd_L1 t245 x18_1).length c248_0)) (fun _ hk => hk.2) (.slice A249_0 (rd_L1 t245 x24_2).length c249_0)) (fun _ h_ => h_.1)))).2.2) hb); replace HL249_0 := A_ (Kd.V_below (by (with_reducible repeat (first | apply Kd.V_alloc | apply Kd.V_drewN | apply Kd.V_drew)); exact (Kd.V_mono (Kd.V_far (p := ⟨gb250, 1, none⟩) (Kd.V_far (p := ⟨gb250, 0, none⟩) (Kd.V_mono HL249_0.out (fun k_ hk => (⟨hk, hk.2⟩ : _ ∧ k_ ≠ gb250))) (fun _ hk => hk.2) (.slice A248_0 (rd_L1 t245 x18_1).length c248_0)) (fun _ hk => hk.2) (.slice A249_0 (rd_L1 t245 x24_2).length c249_0)) (fun _ h_ => h_.1))) hb); replace BK250 := A_ (kE_ (g := gb250) (o := .cells #[.slice A248_0 (rd_L1 t245 x18_1).length c248_0, .slice A249_0 (rd_L1 t245 x24_2).length c249_0] 38 (0, 0)) qp_ hb); replace HB := b1_ hb; clear hb))
         go_roundg k2
         case measure => have := HK1.out; have := HK2.out; omega
         case rel => exact ⟨(x3_2), (wrap64 (x24_2 + 1)), qc_, H', ⟨by have := HK1.out; have := HK2.out; omega⟩, ⟨by (with_reducible repeat (first | apply Kd.N_alloc | apply Kd.N_drewN | apply Kd.N_drew)); exact Kd.N_mono HO_3.out (fun _ hk => ⟨hk.1.1, ⟨hk.1.2.1, ⟨hk.1.2.2.1, hk.1.2.2.2⟩⟩⟩)⟩, ⟨by (with_reducible repeat (first | apply Kd.N_alloc | apply Kd.N_drewN | apply Kd.N_drew)); exact Kd.N_mono HO_4.out (fun _ hk => ⟨hk.1.1, hk.1.2⟩)⟩, ⟨by (with_reducible repeat (first | apply Kd.V_alloc | apply Kd.V_drewN | apply Kd.V_drew)); exact Kd.V_mono HO_6.out (fun _ hk => ⟨hk.1.1, ⟨hk.1.2.1, hk.1.2.2⟩⟩)⟩, ⟨by (with_reducible repeat (first | apply Kd.N_alloc | apply Kd.N_drewN | apply Kd.N_drew)); exact Kd.N_mono HO_16.out (fun _ hk => ⟨hk.1.1, hk.1.2⟩)⟩, ⟨by (with_reducible repeat (first | apply Kd.N_alloc | apply Kd.N_drewN | apply Kd.N_drew)); exact Kd.N_mono HO_22.out (fun _ hk => ⟨hk.1.1, hk.1.2⟩)⟩, ⟨hB_⟩⟩
       ·rw [if_neg c12] at H
        have c12b0 := oD_ c12
        clear c12
        have H' := A_ H
        clear H
        go_wp2
        go_roundg k2
        case measure => have := HK1.out; have := HK2.out; omega
        case rel => exact ⟨(x3_2), (wrap64 (x18_1 + 1)), qc_, H', ⟨by have := HK1.out; have := HK2.out; omega⟩, ⟨by (with_reducible repeat (first | apply Kd.N_alloc | apply Kd.N_drewN | apply Kd.N_drew)); exact Kd.N_mono HO_3.out (fun _ hk => ⟨hk.1, ⟨hk.2.1, hk.2.2.1⟩⟩)⟩, ⟨by (with_reducible repeat (first | apply Kd.N_alloc | apply Kd.N_drewN | apply Kd.N_drew)); exact HO_4.out⟩, ⟨by (with_reducible repeat (first | apply Kd.N_alloc | apply Kd.N_drewN | apply Kd.N_drew)); exact HO_16.out⟩, ⟨hB_⟩⟩
    ·rw [if_neg c9] at H
     have c9b0 := oD_ c9
     clear c9
     obtain rfl := Option.some.inj H
     go_wp2
     go_ret
     exact ⟨_, qb_, by (with_reducible repeat (first | apply Kd.N_alloc | apply Kd.N_drewN | apply Kd.N_drew)); exact Kd.N_mono HO_3.out (fun _ hk => hk.1), hB_⟩
 ·replace c3 := Bool.eq_false_iff.mpr c3
  subst c3
  have H1 : (some ([] : List (S38))) = some r := by rw [if_neg (show ¬ (false = true) by decide)] at H; exact H
  clear H
  have H := H1
  clear H1
  obtain rfl := Option.some.inj H
  go_enter Tryz.func18, Tryz.ntmps18
  go_wp2_with (first | ((with_reducible refine gA_ (f := 31) rfl ?_); refine gL_ (some 11) Tryz.func31 #[.int .i64 a0, .int .i64 1, .int .i64 4] rfl qa_ ?_; (with_reducible refine (Z66.calls a0 1 4 false _ A2.out).mono ?_); rintro e w' ⟨rfl, ⟨nd, rfl⟩⟩; refine ⟨_, rfl, ?_⟩))
  go_ret
  exact ⟨_, qb_, by first | exact Kd.S_nil _ _ _ _ _ | exact Kd.N_nil _ _ _ _ _ | exact Kd.V_nil _ _ _ _ _ | exact Kd.Q_nil _ _ _ _ _ | exact Kd.R_nil _ _ _ _ _, hB_⟩
end Go.Proofs.YtoijcallajegfaaGreat.A
end
section
namespace Go.Proofs.YtoijcallajegfaaGreat.A
open Go.RowKit Go.Proofs.YtoijcallajegfaaGreatW.PrintWords Go.Proofs.YtoijcallajegfaaGreatW.PrintLast Go.Proofs.YtoijcallajegfaaGreatW.PrintMore
attribute [local go_sem] max2_int min2_int max_two min_two max_three min_three max_four min_four
set_option linter.unusedVariables false
set_option linter.unusedSimpArgs false
mutual
def Z60.l0 : Nat → List Int → List Int → Int → Int → Option (List Int)
 | 0, _, _, _, _ => none
 | k + 1, x3, x8, x9, x10 => if x10 < x9 then (if 0 ≤ x10 then (if x10 < (x8.length : Int) then (if x3.length < 17592186044416 then ((some (x3 ++ [0] : List Int)).bind fun y265 => (Z60.l1 k y265 (rd x8 x10) (wrap64 ((y265.length : Int) - 1)) x8 x9 x10)) else (none)) else (none)) else (none)) else (some x3)
def Z60.l1 : Nat → List Int → Int → Int → List Int → Int → Int → Option (List Int)
 | 0, _, _, _, _, _, _ => none
 | k + 1, x3, x5, x6, x8, x9, x10 => if x6 > 0 then (if 0 ≤ (wrap64 (x6 - 1)) then (if (wrap64 (x6 - 1)) < (x3.length : Int) then (if (rd x3 (wrap64 (x6 - 1))) < x5 then (if 0 ≤ x6 then (if x6 < (x3.length : Int) then (Z60.l1 k (x3.set (x6 : Int).toNat (rd x3 (wrap64 (x6 - 1)))) x5 (wrap64 (x6 - 1)) x8 x9 x10) else (none)) else (none)) else (if 0 ≤ x6 then (if x6 < (x3.length : Int) then (Z60.l0 k (x3.set (x6 : Int).toNat x5) x8 x9 (wrap64 (x10 + 1))) else (none)) else (none))) else (none)) else (none)) else (if 0 ≤ x6 then (if x6 < (x3.length : Int) then (Z60.l0 k (x3.set (x6 : Int).toNat x5) x8 x9 (wrap64 (x10 + 1))) else (none)) else (none))
end
def Z60.f (k : Nat) (l0 : List Int) : Option (List Int) := Z60.l0 k (([] : List Int)) l0 (l0.length : Int) 0
theorem Z60.mono_l : ∀ k, (∀ y0 y1 y2 y3, LeO (Z60.l0 k y0 y1 y2 y3) (Z60.l0 (k + 1) y0 y1 y2 y3)) ∧ (∀ y0 y1 y2 y3 y4 y5, LeO (Z60.l1 k y0 y1 y2 y3 y4 y5) (Z60.l1 (k + 1) y0 y1 y2 y3 y4 y5))
 | 0 => ⟨fun _ _ _ _ r h => by simp [Z60.l0] at h, fun _ _ _ _ _ _ r h => by simp [Z60.l1] at h⟩
 | k + 1 => by
  obtain ⟨ih0, ih1⟩ := Z60.mono_l k
  refine ⟨?_, ?_⟩
  ·intro y0 y1 y2 y3
   unfold Z60.l0
   repeat' first|exact ih0 _ _ _ _|exact ih1 _ _ _ _ _ _|exact lo_|refine LeO.ite ?_ ?_|refine LeO.bind ?_ (fun _ => ?_)
  ·intro y0 y1 y2 y3 y4 y5
   unfold Z60.l1
   repeat' first|exact ih0 _ _ _ _|exact ih1 _ _ _ _ _ _|exact lo_|refine LeO.ite ?_ ?_|refine LeO.bind ?_ (fun _ => ?_)
theorem Z60.mono : ∀ a0 k, LeO (Z60.f k a0) (Z60.f (k + 1) a0) := by
 intro a0 k
 obtain ⟨ih0, ih1⟩ := Z60.mono_l k
 unfold Z60.f
 repeat' first|exact ih0 _ _ _ _|exact ih1 _ _ _ _ _ _|exact lo_|refine LeO.ite ?_ ?_|refine LeO.bind ?_ (fun _ => ?_)
set_option maxHeartbeats 8000000 in
set_option maxRecDepth 100000 in
theorem Z60.calls (k : Nat) (A0 : Option Addr) (c0 : Nat) (l0 : List Int) (r : List Int) (w : World) (hr0 : Kd.C (Kd.int .i64) w A0 l0.length l0) (hc0 : l0.length ≤ c0) (h : Z60.f k l0 = some r) :
  Calls Tryz.prog 80 #[.slice A0 l0.length c0] w fun e w' => ∃ v0_ : Value, e = .returned (v0_) ∧ Kd.R (Kd.int .i64) 3 w' w.heap.size (fun _ => True) v0_ r ∧ Below w.heap.size w w' := by
 have HR0 := A_ hr0
 have HC0 := A_ hc0
 clear hr0 hc0
 have HB := A_ (Below.refl w.heap.size w)
 have H := h
 unfold Z60.f at H
 clear h
 obtain ⟨y261, hy261⟩ : ∃ y_ : List Int, y_ = (([] : List Int)) := ⟨_, rfl⟩
 replace H : (Z60.l0 k y261 l0 (l0.length : Int) 0) = some r := by first | (rw [hy261]; exact H) | exact H
 have Ny261 := A_ hy261
 clear hy261
 have H' := A_ H
 clear H
 go_enter Tryz.func80, Tryz.ntmps80
 go_wp2_with (first | ((with_reducible refine gB_ (N := 7) rfl ?_); refine Kd.R_lit (Kd.int .i64) _ 3 ?hg (N := 7) ?hd (xs := ([] : List Int)) (inner := []) (ok := fun _ => True) (okp := fun _ => True) ?hr ?hp (fun _ hk => hk) trivial (Below.refl _ _) (nA_ _) (by simp) ?_; (case hd => rfl); (case hg => rfl); (case hr => first | (go_simp; done) | (go_simp; rfl)); (case hp => exact (Reps.none _ _)); intro v262 w2 ho3 hb hg_ hnew_; clear hg_ hnew_; (first | rw [← Ny261.out] at ho3 | (simp only [Int.reduceToNat] at ho3; rw [← Ny261.out] at ho3)); have HO263 := rl_ w ho3; replace HB := b1_ hb; clear hb ho3))
 go_loopg [3, 10] k (fun kq v3 v10 w' => ∃ (x3_1 : List Int) (x10_1 : Int), v10 = .int .i64 x10_1 ∧ Aside0 (Z60.l0 kq x3_1 l0 (l0.length : Int) x10_1 = some r) ∧ Aside0 (kq ≤ k) ∧ Aside0 (Kd.R (Kd.int .i64) 3 w' w.heap.size (fun _ => True) v3 x3_1) ∧ Aside0 (Below w.heap.size w w'))
 case atStart => exact ⟨(y261), (0), qc_, H', ⟨nA_ _⟩, ⟨(rr_ HO263)⟩, ⟨hB_⟩⟩
 case round =>
  clear H'
  obtain ⟨x3_1, x10_1, rfl, HA, HK1, HO_3, HB⟩ := hrel
  cases gk with
  | zero => exact absurd HA.out (by simp [Z60.l0])
  | succ k1 =>
   have H := HA.out
   clear HA
   simp only [Z60.l0] at H
   by_cases c4 : x10_1 < (l0.length : Int)
   ·rw [if_pos c4] at H
    have c4b0 := oC_ c4
    clear c4
    have c5 := cp_ H
    replace H := ca_ H
    have c5b0 := oC_ c5
    clear c5
    have c6 := cp_ H
    replace H := ca_ H
    have c6b0 := oC_ c6
    clear c6
    have c7 := cp_ H
    replace H := ca_ H
    have LMc7 := A_ c7
    clear c7
    obtain ⟨y265, hy265⟩ : ∃ y_ : List Int, y_ = (x3_1 ++ [0]) := ⟨_, rfl⟩
    replace H : (Z60.l1 k1 y265 (rd l0 x10_1) (wrap64 ((y265.length : Int) - 1)) l0 (l0.length : Int) x10_1) = some r := by first | (rw [hy265]; exact H) | exact H
    have Ny265 := A_ hy265
    clear hy265
    have H' := A_ H
    clear H
    have p264 : 0 ≤ (x10_1 : Int) := oB_ qe_
    have q264 : x10_1 < (l0.length : Int) := oB_ qe_
    obtain ⟨ad264, e264, hx264_0⟩ := Kd.at_int HR0.out x10_1 p264 q264
    cases e264
    replace hx264_0 := (HB.out.cell (World.block_lt_of_cell? w _ hx264_0)).trans hx264_0
    replace p264 := eq_true p264
    replace q264 := eq_true q264
    go_wp2_with (first | ((with_reducible refine gate_builtin (b := .append) (xs := #[.tmp 14, .tmp 15]) rfl ?_); at_builtin; refine Kd.R_append (Kd.int .i64) (w0 := w) w.heap.size rfl (.tmp 14) (.tmp 15) 27 3 (.int .i64 0) 8 rfl Tryz.underlying27 info3 rfl (by decide) (by omega) u3 x3_1 0 [.int .i64 0] (fun _ => True) (fun _ => False) rfl rfl ?aP (fun _ hk => hk.elim) ?aF ?aO ?aB ?aS ?aL ?_; (case aP => exact rfl); (case aB => exact hB_); (case aF => exact (fun _ _ => trivial)); (case aO => exact (rr_ HO_3)); (case aS => exact (bF_ hB_)); (case aL => have := LMc7.out; omega); intro v266 w8 ho hb hg hat; rw [← Ny265.out] at ho; replace HB := A_ hb; have HO267 := A_ ho; clear HO_3; clear ho hb hg hat; obtain ⟨Ao9, co9, eo9⟩ := Kd.R_slice HO267.out; subst eo9))
    go_loopg [6] k1 (fun kq v6 w' => ∃ (x3_2 : List Int) (x6_2 : Int), v6 = .int .i64 x6_2 ∧ Aside0 (Z60.l1 kq x3_2 (rd l0 x10_1) x6_2 l0 (l0.length : Int) x10_1 = some r) ∧ Aside0 (kq ≤ k1) ∧ Aside0 (Kd.R (Kd.int .i64) 3 w' w.heap.size (fun _ => True) (.slice Ao9 y265.length co9) x3_2) ∧ Aside0 (Below w.heap.size w w'))
    case atStart => exact ⟨(y265), (wrap64 ((y265.length : Int) - 1)), qc_, H', ⟨nA_ _⟩, ⟨(rr_ HO267)⟩, ⟨hB_⟩⟩
    case round =>
     clear H'
     obtain ⟨x3_2, x6_2, rfl, HA, HK2, HO_3, HB⟩ := hrel
     have hl3_2 := (Kd.R_reads' HO_3.out).1
     rw [hl3_2] at HO_3
     (try simp only [hl3_2])
     cases gk with
     | zero => exact absurd HA.out (by simp [Z60.l1])
     | succ k2 =>
      have H := HA.out
      clear HA
      simp only [Z60.l1] at H
      by_cases c10 : x6_2 > 0
      ·rw [if_pos c10] at H
       have c10b0 : decide (0 < x6_2) = true := oC_ c10
       clear c10
       obtain ⟨ji11, hji11⟩ : ∃ j_ : Int, (wrap64 (x6_2 - 1)) = j_ := ⟨_, rfl⟩
       replace H : (if 0 ≤ (ji11) then (if (ji11) < (x3_2.length : Int) then (if (rd x3_2 (ji11)) < (rd l0 x10_1) then (if 0 ≤ x6_2 then (if x6_2 < (x3_2.length : Int) then (Z60.l1 k2 (x3_2.set (x6_2 : Int).toNat (rd x3_2 (ji11))) (rd l0 x10_1) ji11 l0 (l0.length : Int) x10_1) else (none)) else (none)) else (if 0 ≤ x6_2 then (if x6_2 < (x3_2.length : Int) then (Z60.l0 k2 (x3_2.set (x6_2 : Int).toNat (rd l0 x10_1)) l0 (l0.length : Int) (wrap64 (x10_1 + 1))) else (none)) else (none))) else (none)) else (none)) = some r := by first | (rw [hji11] at H; exact H) | (simp only [hji11] at H ⊢; exact H)
       have hji11w : (IntKind.i64.wrap (x6_2 - 1)) = ji11 := (i64_w _).trans hji11
       have c12 := cp_ H
       replace H := ca_ H
       have c12b0 := oC_ c12
       clear c12
       have c13 := cp_ H
       replace H := ca_ H
       have c13b0 := oC_ c13
       clear c13
       by_cases c14 : (rd x3_2 (ji11)) < (rd l0 x10_1)
       ·rw [if_pos c14] at H
        have c14b0 := oC_ c14
        clear c14
        have c15 := cp_ H
        replace H := ca_ H
        have c15b0 := oC_ c15
        clear c15
        have c16 := cp_ H
        replace H := ca_ H
        have c16b0 := oC_ c16
        clear c16
        obtain ⟨y270, hy270⟩ : ∃ y_ : List Int, y_ = (x3_2.set (x6_2 : Int).toNat (rd x3_2 (ji11))) := ⟨_, rfl⟩
        replace H : (Z60.l1 k2 y270 (rd l0 x10_1) ji11 l0 (l0.length : Int) x10_1) = some r := by first | (rw [hy270]; exact H) | exact H
        have Ny270 := A_ hy270
        clear hy270
        have H' := A_ H
        clear H
        have p268 : 0 ≤ ((ji11) : Int) := oB_ qe_
        have q268 : (ji11) < (x3_2.length : Int) := oB_ qe_
        obtain ⟨ad268, e268, hx268_0⟩ := Kd.at_int (Kd.R_reads' HO_3.out).2.2 (ji11) p268 q268
        cases e268
        replace p268 := eq_true p268
        replace q268 := eq_true q268
        have p269 : 0 ≤ ((ji11) : Int) := oB_ qe_
        have q269 : (ji11) < (x3_2.length : Int) := oB_ qe_
        obtain ⟨ad269, e269, hx269_0⟩ := Kd.at_int (Kd.R_reads' HO_3.out).2.2 (ji11) p269 q269
        obtain rfl : ad268 = ad269 := (by injection e269)
        replace p269 := eq_true p269
        replace q269 := eq_true q269
        have p17 : 0 ≤ (x6_2 : Int) := oB_ qe_
        have q17 : (x6_2 : Int) < ((x3_2.length : Int) : Int) := oB_ qe_
        obtain ⟨go17, co17, eo17, gb17, gl17, cl17, HG17⟩ := Kd.R_form HO_3.out (by omega)
        (first | cases eo17 | (injection eo17 with ea_ en_ ec_; (first | subst ea_ | (injection ea_ with ea_; subst ea_)); subst ec_; clear en_))
        have GB17 := A_ gb17
        have GG17 := A_ HG17
        clear gb17 gl17 HG17
        (first | simp only [add_plain] at hx268_0 | skip)
        (first | simp only [add_plain] at hx269_0 | skip)
        obtain ⟨hx17_0, hf17_0⟩ := Kd.R_celln 0 HO_3.out (x6_2 : Int) p17 q17
        replace p17 := eq_true p17
        replace q17 := eq_true q17
        have HP18 := Kd.R_putg HO_3.out (x6_2 : Int) (rd x3_2 (ji11))
        go_wp2_with (first | ((with_reducible refine gate_store (t := 3) (p := 38) rfl ?_); refine store_event (t := 3) (p := 38) (v := ?vo_w19) (w1 := (wr.setCell ⟨go17, (x6_2 : Int).toNat, none⟩ (.int .i64 (rd x3_2 (ji11))))) ?hg ?ho ?hn ?hr ?_; (case ho => rfl); (case hg => rfl); (case hn => rfl); (case hr => first | (go_simp; done) | (go_simp; rfl)); intro w19 hw; have hg : wr.grownBy w19 (some go17) := (by rw [hw]; exact HP18.2); have hp_ : Kd.R (Kd.int .i64) 3 w19 w.heap.size (fun _ => True) (.slice (some ⟨go17, 0, none⟩) x3_2.length co9) y270 := (by rw [hw, Ny270.out]; exact HP18.1); clear HP18; replace HO_3 := A_ (hp_); replace HB := A_ ((by rw [hw]; exact bD_ (HB.out) GB17.out : Below w.heap.size w w19)); clear hg hw hp_))
        (try simp only [← hl3_2])
        go_roundg k2
        case measure => have := HK1.out; have := HK2.out; omega
        case rel => exact ⟨(y270), (ji11), (by first | rfl | (simp; done) | (simp only [← hji11] <;> (first | rfl | simp)) | (simp [*]; done)), H', ⟨by have := HK1.out; have := HK2.out; omega⟩, ⟨by (try simp only [hl3_2]); (with_reducible repeat (first | apply rA_ | apply rB_ | apply rC_)); exact HO_3.out⟩, ⟨hB_⟩⟩
       ·rw [if_neg c14] at H
        have c14b0 := oD_ c14
        clear c14
        have c20 := cp_ H
        replace H := ca_ H
        have c20b0 := oC_ c20
        clear c20
        have c21 := cp_ H
        replace H := ca_ H
        have c21b0 := oC_ c21
        clear c21
        obtain ⟨y271, hy271⟩ : ∃ y_ : List Int, y_ = (x3_2.set (x6_2 : Int).toNat (rd l0 x10_1)) := ⟨_, rfl⟩
        replace H : (Z60.l0 k2 y271 l0 (l0.length : Int) (wrap64 (x10_1 + 1))) = some r := by first | (rw [hy271]; exact H) | exact H
        have Ny271 := A_ hy271
        clear hy271
        have H' := A_ H
        clear H
        have p268 : 0 ≤ ((ji11) : Int) := oB_ qe_
        have q268 : (ji11) < (x3_2.length : Int) := oB_ qe_
        obtain ⟨ad268, e268, hx268_0⟩ := Kd.at_int (Kd.R_reads' HO_3.out).2.2 (ji11) p268 q268
        cases e268
        replace p268 := eq_true p268
        replace q268 := eq_true q268
        have p22 : 0 ≤ (x6_2 : Int) := oB_ qe_
        have q22 : (x6_2 : Int) < ((x3_2.length : Int) : Int) := oB_ qe_
        obtain ⟨go22, co22, eo22, gb22, gl22, cl22, HG22⟩ := Kd.R_form HO_3.out (by omega)
        (first | cases eo22 | (injection eo22 with ea_ en_ ec_; (first | subst ea_ | (injection ea_ with ea_; subst ea_)); subst ec_; clear en_))
        have GB22 := A_ gb22
        have GG22 := A_ HG22
        clear gb22 gl22 HG22
        (first | simp only [add_plain] at hx268_0 | skip)
        obtain ⟨hx22_0, hf22_0⟩ := Kd.R_celln 0 HO_3.out (x6_2 : Int) p22 q22
        replace p22 := eq_true p22
        replace q22 := eq_true q22
        have HP23 := Kd.R_putg HO_3.out (x6_2 : Int) (rd l0 x10_1)
        go_wp2_with (first | ((with_reducible refine gate_store (t := 3) (p := 44) rfl ?_); refine store_event (t := 3) (p := 44) (v := ?vo_w24) (w1 := (wr.setCell ⟨go22, (x6_2 : Int).toNat, none⟩ (.int .i64 (rd l0 x10_1)))) ?hg ?ho ?hn ?hr ?_; (case ho => rfl); (case hg => rfl); (case hn => rfl); (case hr => first | (go_simp; done) | (go_simp; rfl)); intro w24 hw; have hg : wr.grownBy w24 (some go22) := (by rw [hw]; exact HP23.2); have hp_ : Kd.R (Kd.int .i64) 3 w24 w.heap.size (fun _ => True) (.slice (some ⟨go22, 0, none⟩) x3_2.length co9) y271 := (by rw [hw, Ny271.out]; exact HP23.1); clear HP23; replace HO_3 := A_ (hp_); replace HB := A_ ((by rw [hw]; exact bD_ (HB.out) GB22.out : Below w.heap.size w w24)); clear hg hw hp_))
        (try simp only [← hl3_2])
        go_roundg k2
        case measure => have := HK1.out; have := HK2.out; omega
        case rel => exact ⟨(y271), (wrap64 (x10_1 + 1)), qc_, H', ⟨by have := HK1.out; have := HK2.out; omega⟩, ⟨by (try simp only [hl3_2]); (with_reducible repeat (first | apply rA_ | apply rB_ | apply rC_)); exact HO_3.out⟩, ⟨hB_⟩⟩
      ·rw [if_neg c10] at H
       have c10b0 : decide (0 < x6_2) = false := oD_ c10
       clear c10
       have c25 := cp_ H
       replace H := ca_ H
       have c25b0 := oC_ c25
       clear c25
       have c26 := cp_ H
       replace H := ca_ H
       have c26b0 := oC_ c26
       clear c26
       obtain ⟨y272, hy272⟩ : ∃ y_ : List Int, y_ = (x3_2.set (x6_2 : Int).toNat (rd l0 x10_1)) := ⟨_, rfl⟩
       replace H : (Z60.l0 k2 y272 l0 (l0.length : Int) (wrap64 (x10_1 + 1))) = some r := by first | (rw [hy272]; exact H) | exact H
       have Ny272 := A_ hy272
       clear hy272
       have H' := A_ H
       clear H
       have p27 : 0 ≤ (x6_2 : Int) := oB_ qe_
       have q27 : (x6_2 : Int) < ((x3_2.length : Int) : Int) := oB_ qe_
       obtain ⟨go27, co27, eo27, gb27, gl27, cl27, HG27⟩ := Kd.R_form HO_3.out (by omega)
       (first | cases eo27 | (injection eo27 with ea_ en_ ec_; (first | subst ea_ | (injection ea_ with ea_; subst ea_)); subst ec_; clear en_))
       have GB27 := A_ gb27
       have GG27 := A_ HG27
       clear gb27 gl27 HG27
       obtain ⟨hx27_0, hf27_0⟩ := Kd.R_celln 0 HO_3.out (x6_2 : Int) p27 q27
       replace p27 := eq_true p27
       replace q27 := eq_true q27
       have HP28 := Kd.R_putg HO_3.out (x6_2 : Int) (rd l0 x10_1)
       go_wp2_with (first | ((with_reducible refine gate_store (t := 3) (p := 44) rfl ?_); refine store_event (t := 3) (p := 44) (v := ?vo_w29) (w1 := (wr.setCell ⟨go27, (x6_2 : Int).toNat, none⟩ (.int .i64 (rd l0 x10_1)))) ?hg ?ho ?hn ?hr ?_; (case ho => rfl); (case hg => rfl); (case hn => rfl); (case hr => first | (go_simp; done) | (go_simp; rfl)); intro w29 hw; have hg : wr.grownBy w29 (some go27) := (by rw [hw]; exact HP28.2); have hp_ : Kd.R (Kd.int .i64) 3 w29 w.heap.size (fun _ => True) (.slice (some ⟨go27, 0, none⟩) x3_2.length co9) y272 := (by rw [hw, Ny272.out]; exact HP28.1); clear HP28; replace HO_3 := A_ (hp_); replace HB := A_ ((by rw [hw]; exact bD_ (HB.out) GB27.out : Below w.heap.size w w29)); clear hg hw hp_))
       (try simp only [← hl3_2])
       go_roundg k2
       case measure => have := HK1.out; have := HK2.out; omega
       case rel => exact ⟨(y272), (wrap64 (x10_1 + 1)), qc_, H', ⟨by have := HK1.out; have := HK2.out; omega⟩, ⟨by (try simp only [hl3_2]); (with_reducible repeat (first | apply rA_ | apply rB_ | apply rC_)); exact HO_3.out⟩, ⟨hB_⟩⟩
   ·rw [if_neg c4] at H
    have c4b0 := oD_ c4
    clear c4
    obtain rfl := Option.some.inj H
    go_wp2
    go_ret
    exact ⟨_, qb_, (rr_ HO_3), hB_⟩
end Go.Proofs.YtoijcallajegfaaGreat.A
end
section
namespace Go.Proofs.YtoijcallajegfaaGreat.A
open Go.RowKit Go.Proofs.YtoijcallajegfaaGreatW.PrintWords Go.Proofs.YtoijcallajegfaaGreatW.PrintLast Go.Proofs.YtoijcallajegfaaGreatW.PrintMore
attribute [local go_sem] max2_int min2_int max_two min_two max_three min_three max_four min_four
set_option linter.unusedVariables false
set_option linter.unusedSimpArgs false
def Z25.l0 : Nat → List Int → List (List Int) → Int → Int → Option (List Int)
 | 0, _, _, _, _ => none
 | k + 1, x3, x7, x8, x9 => if x9 < x8 then (if 0 ≤ x9 then (if x9 < (x7.length : Int) then (if x3.length < 17592186044416 then (Z25.l0 k (x3 ++ [((rd_L1 x7 x9).length : Int)]) x7 x8 (wrap64 (x9 + 1))) else (none)) else (none)) else (none)) else ((Z60.f k x3).bind fun t280 => (some t280))
def Z25.f (k : Nat) (l0 : List (List Int)) : Option (List Int) := Z25.l0 k (([] : List Int)) l0 (l0.length : Int) 0
theorem Z25.mono_l : ∀ k, (∀ y0 y1 y2 y3, LeO (Z25.l0 k y0 y1 y2 y3) (Z25.l0 (k + 1) y0 y1 y2 y3))
 | 0 => fun _ _ _ _ r h => by simp [Z25.l0] at h
 | k + 1 => by
  have ih0 := Z25.mono_l k
  ·intro y0 y1 y2 y3
   unfold Z25.l0
   repeat' first|exact ih0 _ _ _ _|exact Z60.mono _ _|exact lo_|refine LeO.ite ?_ ?_|refine LeO.bind ?_ (fun _ => ?_)
theorem Z25.mono : ∀ a0 k, LeO (Z25.f k a0) (Z25.f (k + 1) a0) := by
 intro a0 k
 have ih0 := Z25.mono_l k
 unfold Z25.f
 repeat' first|exact ih0 _ _ _ _|exact Z60.mono _ _|exact lo_|refine LeO.ite ?_ ?_|refine LeO.bind ?_ (fun _ => ?_)
set_option maxHeartbeats 8000000 in
set_option maxRecDepth 100000 in
theorem Z25.calls (k : Nat) (A0 : Option Addr) (c0 : Nat) (l0 : List (List Int)) (r : List Int) (w : World) (hr0 : Kd.C (Kd.slice 3 (Kd.int .i64)) w A0 l0.length l0) (hc0 : l0.length ≤ c0) (h : Z25.f k l0 = some r) :
  Calls Tryz.prog 51 #[.slice A0 l0.length c0] w fun e w' => ∃ v0_ : Value, e = .returned (v0_) ∧ Kd.R (Kd.int .i64) 3 w' w.heap.size (fun _ => True) v0_ r ∧ Below w.heap.size w w' := by
 have HR0 := A_ hr0
 have HC0 := A_ hc0
 clear hr0 hc0
 have HB := A_ (Below.refl w.heap.size w)
 have H := h
 unfold Z25.f at H
 clear h
 obtain ⟨y273, hy273⟩ : ∃ y_ : List Int, y_ = (([] : List Int)) := ⟨_, rfl⟩
 replace H : (Z25.l0 k y273 l0 (l0.length : Int) 0) = some r := by first | (rw [hy273]; exact H) | exact H
 have Ny273 := A_ hy273
 clear hy273
 have H' := A_ H
 clear H
 go_enter Tryz.func51, Tryz.ntmps51
 go_wp2_with (first | ((with_reducible refine gB_ (N := 6) rfl ?_); refine Kd.R_lit (Kd.int .i64) _ 3 ?hg (N := 6) ?hd (xs := ([] : List Int)) (inner := []) (ok := fun _ => True) (okp := fun _ => True) ?hr ?hp (fun _ hk => hk) trivial (Below.refl _ _) (nA_ _) (by simp) ?_; (case hd => rfl); (case hg => rfl); (case hr => first | (go_simp; done) | (go_simp; rfl)); (case hp => exact (Reps.none _ _)); intro v274 w2 ho3 hb hg_ hnew_; clear hg_ hnew_; (first | rw [← Ny273.out] at ho3 | (simp only [Int.reduceToNat] at ho3; rw [← Ny273.out] at ho3)); have HO275 := rl_ w ho3; replace HB := b1_ hb; clear hb ho3))
 go_loopg [3, 9] k (fun kq v3 v9 w' => ∃ (x3_1 : List Int) (x9_1 : Int), v9 = .int .i64 x9_1 ∧ Aside0 (Z25.l0 kq x3_1 l0 (l0.length : Int) x9_1 = some r) ∧ Aside0 (kq ≤ k) ∧ Aside0 (Kd.R (Kd.int .i64) 3 w' w.heap.size (fun _ => True) v3 x3_1) ∧ Aside0 (Below w.heap.size w w'))
 case atStart => exact ⟨(y273), (0), qc_, H', ⟨nA_ _⟩, ⟨(rr_ HO275)⟩, ⟨hB_⟩⟩
 case round =>
  clear H'
  obtain ⟨x3_1, x9_1, rfl, HA, HK1, HO_3, HB⟩ := hrel
  cases gk with
  | zero => exact absurd HA.out (by simp [Z25.l0])
  | succ k1 =>
   have H := HA.out
   clear HA
   simp only [Z25.l0] at H
   by_cases c4 : x9_1 < (l0.length : Int)
   ·rw [if_pos c4] at H
    have c4b0 := oC_ c4
    clear c4
    have c5 := cp_ H
    replace H := ca_ H
    have c5b0 := oC_ c5
    clear c5
    have c6 := cp_ H
    replace H := ca_ H
    have c6b0 := oC_ c6
    clear c6
    have c7 := cp_ H
    replace H := ca_ H
    have LMc7 := A_ c7
    clear c7
    obtain ⟨y277, hy277⟩ : ∃ y_ : List Int, y_ = (x3_1 ++ [((rd_L1 l0 x9_1).length : Int)]) := ⟨_, rfl⟩
    replace H : (Z25.l0 k1 y277 l0 (l0.length : Int) (wrap64 (x9_1 + 1))) = some r := by first | (rw [hy277]; exact H) | exact H
    have Ny277 := A_ hy277
    clear hy277
    have H' := A_ H
    clear H
    have p276 : 0 ≤ (x9_1 : Int) := oB_ qe_
    have q276 : x9_1 < (l0.length : Int) := oB_ qe_
    obtain ⟨ad276, A276_0, c276_0, e276, hx276_0, hl276_0, hi276_0⟩ := at_L1 HR0.out x9_1 p276 q276
    cases e276
    replace hx276_0 := (HB.out.cell (World.block_lt_of_cell? w _ hx276_0)).trans hx276_0
    have HR276_0 := A_ hi276_0
    have HC276_0 := A_ hl276_0
    clear hi276_0 hl276_0
    replace p276 := eq_true p276
    replace q276 := eq_true q276
    go_wp2_with (first | ((with_reducible refine gate_builtin (b := .append) (xs := #[.tmp 13, .tmp 16]) rfl ?_); at_builtin; refine Kd.R_append (Kd.int .i64) (w0 := w) w.heap.size rfl (.tmp 13) (.tmp 16) 27 3 (.int .i64 0) 8 rfl Tryz.underlying27 info3 rfl (by decide) (by omega) u3 x3_1 ((rd_L1 l0 x9_1).length : Int) [.int .i64 ((rd_L1 l0 x9_1).length : Int)] (fun _ => True) (fun _ => False) rfl rfl ?aP (fun _ hk => hk.elim) ?aF ?aO ?aB ?aS ?aL ?_; (case aP => exact rfl); (case aB => exact hB_); (case aF => exact (fun _ _ => trivial)); (case aO => exact (rr_ HO_3)); (case aS => exact (bF_ hB_)); (case aL => have := LMc7.out; omega); intro v278 w8 ho hb hg hat; rw [← Ny277.out] at ho; replace HB := A_ hb; have HO279 := A_ ho; clear HO_3; clear ho hb hg hat))
    go_roundg k1
    case measure => have := HK1.out; omega
    case rel => exact ⟨(y277), (wrap64 (x9_1 + 1)), qc_, H', ⟨by have := HK1.out; omega⟩, ⟨(rr_ HO279)⟩, ⟨hB_⟩⟩
   ·rw [if_neg c4] at H
    have c4b0 := oD_ c4
    clear c4
    obtain ⟨t280, A9, H⟩ := bi_ H
    obtain rfl := Option.some.inj H
    obtain ⟨Ao10, co10, eo10⟩ := Kd.R_slice HO_3.out
    subst eo10
    go_wp2_with (first | ((with_reducible refine gA_ (f := 80) rfl ?_); refine gL_ (some 20) Tryz.func80 #[.slice Ao10 x3_1.length co10] rfl qa_ ?_; (with_reducible refine (Z60.calls k1 _ _ x3_1 t280 _ (cr_ HO_3) ((Kd.R_reads' HO_3.out).2.1) A9.out).mono ?_); rintro e w11 ⟨v281, rfl, ho0, hb⟩; refine ⟨_, rfl, ?_⟩; have HO282 := A_ (rE_ (Kd.R_new' ho0 (Kd.R_lt (rr_ HO_3))) (bF_ hB_)); replace HO_3 := A_ (Kd.R_elder' (rr_ HO_3) (Kd.R_base ho0) hb); replace HB := b1_ hb; clear hb ho0))
    go_ret
    exact ⟨_, qb_, (rw_ (Kd.R_mono HO282.out (fun _ hk => trivial))), hB_⟩
end Go.Proofs.YtoijcallajegfaaGreat.A
end
section
namespace Go.Proofs.YtoijcallajegfaaGreat.A
open Go.RowKit Go.Proofs.YtoijcallajegfaaGreatW.PrintWords Go.Proofs.YtoijcallajegfaaGreatW.PrintLast Go.Proofs.YtoijcallajegfaaGreatW.PrintMore
attribute [local go_sem] max2_int min2_int max_two min_two max_three min_three max_four min_four
set_option linter.unusedVariables false
set_option linter.unusedSimpArgs false
mutual
def Z51.l0 : Nat → List Int → List (List Int) → List Bool → Int → Int → Option ((List (List Int)))
 | 0, _, _, _, _, _ => none
 | k + 1, x0, x3, x4, x16, x17 => if x17 < x16 then (Z51.l1 k x0 x3 x4 (([] : List Int)) x17 x16 x17) else (some x3)
def Z51.l1 : Nat → List Int → List (List Int) → List Bool → List Int → Int → Int → Int → Option ((List (List Int)))
 | 0, _, _, _, _, _, _, _ => none
 | k + 1, x0, x3, x4, x6, x7, x16, x17 => if 0 ≤ x7 then (if x7 < (x4.length : Int) then (if rdOf false x4 x7 = true then (if (x6.length : Int) > 0 then (if x3.length < 5864062014805 then (Z51.l0 k x0 (x3 ++ [x6]) x4 x16 (wrap64 (x17 + 1))) else (none)) else (Z51.l0 k x0 x3 x4 x16 (wrap64 (x17 + 1)))) else (if x6.length < 17592186044416 then (if x7 < (x0.length : Int) then (Z51.l1 k x0 x3 (x4.set (x7 : Int).toNat true) (x6 ++ [x7]) (rd x0 x7) x16 x17) else (none)) else (none))) else (none)) else (none)
end
def Z51.f (k : Nat) (l0 : List Int) : Option ((List (List Int))) := (Z64.f k l0).bind fun t283 => (if t283 = true then (if 0 ≤ (l0.length : Int) then (if ((l0.length : Int) : Int).toNat ≤ 281474976710656 then (Z51.l0 k l0 (([] : List (List Int))) (List.replicate ((l0.length : Int) : Int).toNat false) (l0.length : Int) 0) else (none)) else (none)) else (some ([] : List (List Int))))
theorem Z51.mono_l : ∀ k, (∀ y0 y1 y2 y3 y4, LeO (Z51.l0 k y0 y1 y2 y3 y4) (Z51.l0 (k + 1) y0 y1 y2 y3 y4)) ∧ (∀ y0 y1 y2 y3 y4 y5 y6, LeO (Z51.l1 k y0 y1 y2 y3 y4 y5 y6) (Z51.l1 (k + 1) y0 y1 y2 y3 y4 y5 y6))
 | 0 => ⟨fun _ _ _ _ _ r h => by simp [Z51.l0] at h, fun _ _ _ _ _ _ _ r h => by simp [Z51.l1] at h⟩
 | k + 1 => by
  obtain ⟨ih0, ih1⟩ := Z51.mono_l k
  refine ⟨?_, ?_⟩
  ·intro y0 y1 y2 y3 y4
   unfold Z51.l0
   repeat' first|exact ih0 _ _ _ _ _|exact ih1 _ _ _ _ _ _ _|exact Z64.mono _ _|exact lo_|refine LeO.ite ?_ ?_|refine LeO.bind ?_ (fun _ => ?_)
  ·intro y0 y1 y2 y3 y4 y5 y6
   unfold Z51.l1
   repeat' first|exact ih0 _ _ _ _ _|exact ih1 _ _ _ _ _ _ _|exact Z64.mono _ _|exact lo_|refine LeO.ite ?_ ?_|refine LeO.bind ?_ (fun _ => ?_)
theorem Z51.mono : ∀ a0 k, LeO (Z51.f k a0) (Z51.f (k + 1) a0) := by
 intro a0 k
 obtain ⟨ih0, ih1⟩ := Z51.mono_l k
 unfold Z51.f
 repeat' first|exact ih0 _ _ _ _ _|exact ih1 _ _ _ _ _ _ _|exact Z64.mono _ _|exact lo_|refine LeO.ite ?_ ?_|refine LeO.bind ?_ (fun _ => ?_)
set_option maxHeartbeats 8000000 in
set_option maxRecDepth 100000 in
theorem Z51.calls (k : Nat) (A0 : Option Addr) (c0 : Nat) (l0 : List Int) (r : List (List Int)) (w : World) (hr0 : Kd.C (Kd.int .i64) w A0 l0.length l0) (hc0 : l0.length ≤ c0) (h : Z51.f k l0 = some r) :
  Calls Tryz.prog 81 #[.slice A0 l0.length c0] w fun e w' => ∃ v0_ : Value, e = .returned (v0_) ∧ Kd.S (Kd.slice 3 (Kd.int .i64)) 27 w' w.heap.size (fun _ => True) v0_ r ∧ Below w.heap.size w w' := by
 have HR0 := A_ hr0
 have HC0 := A_ hc0
 clear hr0 hc0
 have HB := A_ (Below.refl w.heap.size w)
 have H := h
 unfold Z51.f at H
 clear h
 obtain ⟨t283, A2, H⟩ := bi_ H
 by_cases c3 : t283 = true
 ·subst c3
  rw [if_pos rfl] at H
  obtain ⟨y284, hy284⟩ : ∃ y_ : List (List Int), y_ = (([] : List (List Int))) := ⟨_, rfl⟩
  replace H : (if 0 ≤ (l0.length : Int) then (if ((l0.length : Int) : Int).toNat ≤ 281474976710656 then (Z51.l0 k l0 y284 (List.replicate ((l0.length : Int) : Int).toNat false) (l0.length : Int) 0) else (none)) else (none)) = some r := by first | (rw [hy284]; exact H) | exact H
  have Ny284 := A_ hy284
  clear hy284
  have c4 := cp_ H
  replace H := ca_ H
  have c4b0 := eq_true c4
  have c4b1 := oC_ c4
  clear c4
  have c5 := cp_ H
  replace H := ca_ H
  have c5b0 := eq_true c5
  have c5b1 := oC_ c5
  clear c5
  obtain ⟨y287, hy287⟩ : ∃ y_ : List Bool, y_ = (List.replicate ((l0.length : Int) : Int).toNat false) := ⟨_, rfl⟩
  replace H : (Z51.l0 k l0 y284 y287 (l0.length : Int) 0) = some r := by first | (rw [hy287]; exact H) | exact H
  have Ny287 := A_ hy287
  clear hy287
  have H' := A_ H
  clear H
  go_enter Tryz.func81, Tryz.ntmps81
  go_wp2_with (first | ((with_reducible refine gA_ (f := 75) rfl ?_); refine gL_ (some 9) Tryz.func75 #[.slice A0 l0.length c0] rfl qa_ ?_; (with_reducible refine (Z64.calls k _ _ l0 true _ (cc_ HR0) HC0.out A2.out).mono ?_); rintro e w' ⟨rfl, ⟨nd, rfl⟩⟩; refine ⟨_, rfl, ?_⟩) | ((with_reducible refine gB_ (N := 11) rfl ?_); refine Kd.S_lit (Kd.slice 3 (Kd.int .i64)) _ 27 ?hg (N := 11) ?hd (xs := ([] : List (List Int))) (inner := []) (ok := fun _ => True) (okp := fun _ => True) ?hr ?hp (fun _ hk => hk) trivial (Below.refl _ _) (nA_ _) (by simp) ?_; (case hd => rfl); (case hg => rfl); (case hr => first | (go_simp; done) | (go_simp; rfl)); (case hp => exact (Reps.none _ _)); intro v285 w6 ho7 hb hg_ hnew_; clear hg_ hnew_; (first | rw [← Ny284.out] at ho7 | (simp only [Int.reduceToNat] at ho7; rw [← Ny284.out] at ho7)); have HO286 := A_ (Kd.S_lower ho7 (bF_ hB_)); replace HB := b1_ hb; clear hb ho7) | ((with_reducible refine gB_ (N := 14) rfl ?_); refine Kd.R_make Kd.bool _ 4 rfl (N := 14) rfl 92 _ _ rfl (l0.length : Int) rfl rfl Tryz.underlying92 (.bool false) 1 info4 rfl (by decide) (by omega) false (ok := fun _ => True) (okp := fun _ => True) rfl (fun _ hk => hk) trivial (oB_ qe_) (Nat.le_trans (Nat.mul_le_mul_right _ (oB_ qe_ : (l0.length : Int).toNat ≤ 281474976710656)) (by omega)) (Below.refl _ _) (nA_ _) ?_; intro v288 w8 ho9 hb hg_ hnew_; clear hg_ hnew_; (first | rw [← Ny287.out] at ho9 | (simp only [Int.reduceToNat] at ho9; rw [← Ny287.out] at ho9)); replace HO286 := sb_ HO286 hb; have HO289 := rl_ w ho9; replace HB := b1_ hb; clear hb ho9))
  go_loopg [3, 17] k (fun kq v3 v17 w' => ∃ (x3_1 : List (List Int)) (x4_1 : List Bool) (x17_1 : Int), v17 = .int .i64 x17_1 ∧ Aside0 (Z51.l0 kq l0 x3_1 x4_1 (l0.length : Int) x17_1 = some r) ∧ Aside0 (kq ≤ k) ∧ Aside0 (Kd.S (Kd.slice 3 (Kd.int .i64)) 27 w' w.heap.size (fun _ => True) v3 x3_1) ∧ Aside0 (Kd.R Kd.bool 4 w' w.heap.size (fun _ => True) v288 x4_1) ∧ Aside0 (Below w.heap.size w w'))
  case atStart => exact ⟨(y284), (y287), (0), qc_, H', ⟨nA_ _⟩, ⟨(ss_ HO286)⟩, ⟨(rr_ HO289)⟩, ⟨hB_⟩⟩
  case round =>
   clear H'
   obtain ⟨x3_1, x4_1, x17_1, rfl, HA, HK1, HO_3, HO_4, HB⟩ := hrel
   cases gk with
   | zero => exact absurd HA.out (by simp [Z51.l0])
   | succ k1 =>
    have H := HA.out
    clear HA
    simp only [Z51.l0] at H
    by_cases c10 : x17_1 < (l0.length : Int)
    ·rw [if_pos c10] at H
     have c10b0 := oC_ c10
     clear c10
     obtain ⟨y290, hy290⟩ : ∃ y_ : List Int, y_ = (([] : List Int)) := ⟨_, rfl⟩
     replace H : (Z51.l1 k1 l0 x3_1 x4_1 y290 x17_1 (l0.length : Int) x17_1) = some r := by first | (rw [hy290]; exact H) | exact H
     have Ny290 := A_ hy290
     clear hy290
     have H' := A_ H
     clear H
     go_wp2_with (first | ((with_reducible refine gB_ (N := 20) rfl ?_); refine Kd.R_lit (Kd.int .i64) _ 3 ?hg (N := 20) ?hd (xs := ([] : List Int)) (inner := []) (ok := fun _ => True) (okp := fun _ => True) ?hr ?hp (fun _ hk => hk) trivial (Below.refl _ _) (nA_ _) (by simp) ?_; (case hd => rfl); (case hg => rfl); (case hr => first | (go_simp; done) | (go_simp; rfl)); (case hp => exact (Reps.none _ _)); intro v291 w11 ho12 hb hg_ hnew_; clear hg_ hnew_; (first | rw [← Ny290.out] at ho12 | (simp only [Int.reduceToNat] at ho12; rw [← Ny290.out] at ho12)); replace HO_3 := A_ (Kd.S_elder' (ss_ HO_3) (Kd.R_base ho12) hb); replace HO_4 := rb_ HO_4 hb; have HO292 := rl_ w ho12; replace HB := b1_ hb; clear hb ho12))
     go_loopg [6, 7] k1 (fun kq v6 v7 w' => ∃ (x4_2 : List Bool) (x6_2 : List Int) (x7_2 : Int), v7 = .int .i64 x7_2 ∧ Aside0 (Z51.l1 kq l0 x3_1 x4_2 x6_2 x7_2 (l0.length : Int) x17_1 = some r) ∧ Aside0 (kq ≤ k1) ∧ Aside0 (Kd.S (Kd.slice 3 (Kd.int .i64)) 27 w' w.heap.size (fun k_ => some k_ ≠ (v6 : Value).ownBlock) u3 x3_1) ∧ Aside0 (Kd.R Kd.bool 4 w' w.heap.size (fun _ => True) v288 x4_2) ∧ Aside0 (Kd.R (Kd.int .i64) 3 w' w.heap.size (fun _ => True) v6 x6_2) ∧ Aside0 (Below w.heap.size w w'))
     case atStart => exact ⟨(x4_1), (y290), (x17_1), qc_, H', ⟨nA_ _⟩, ⟨(sw_ (Kd.S_mono HO_3.out (fun _ hk => hk.2)))⟩, ⟨(rr_ HO_4)⟩, ⟨(rr_ HO292)⟩, ⟨hB_⟩⟩
     case round =>
      clear H'
      obtain ⟨x4_2, x6_2, x7_2, rfl, HA, HK2, HO_3, HO_4, HO_6, HB⟩ := hrel
      cases gk with
      | zero => exact absurd HA.out (by simp [Z51.l1])
      | succ k2 =>
       have H := HA.out
       clear HA
       simp only [Z51.l1] at H
       have c13 := cp_ H
       replace H := ca_ H
       have c13b0 := oC_ c13
       clear c13
       have c14 := cp_ H
       replace H := ca_ H
       have c14b0 := oC_ c14
       clear c14
       obtain ⟨bq15, hbq15⟩ : ∃ b_ : Bool, b_ = (rdOf false x4_2 x7_2) := ⟨_, rfl⟩
       replace H : (if bq15 = true then (if (x6_2.length : Int) > 0 then (if x3_1.length < 5864062014805 then (Z51.l0 k2 l0 (x3_1 ++ [x6_2]) x4_2 (l0.length : Int) (wrap64 (x17_1 + 1))) else (none)) else (Z51.l0 k2 l0 x3_1 x4_2 (l0.length : Int) (wrap64 (x17_1 + 1)))) else (if x6_2.length < 17592186044416 then (if x7_2 < (l0.length : Int) then (Z51.l1 k2 l0 x3_1 (x4_2.set (x7_2 : Int).toNat true) (x6_2 ++ [x7_2]) (rd l0 x7_2) (l0.length : Int) x17_1) else (none)) else (none))) = some r := by rw [← hbq15] at H; exact H
       have Nbq15 := A_ hbq15
       clear hbq15
       by_cases c16 : bq15 = true
       ·subst c16
        rw [if_pos rfl] at H
        by_cases c17 : (x6_2.length : Int) > 0
        ·rw [if_pos c17] at H
         have c17b0 : decide (0 < (x6_2.length : Int)) = true := oC_ c17
         have c17b1 : decide (0 < x6_2.length) = true := oC_ (by omega)
         clear c17
         have c18 := cp_ H
         replace H := ca_ H
         have LMc18 := A_ c18
         clear c18
         obtain ⟨y294, hy294⟩ : ∃ y_ : List (List Int), y_ = (x3_1 ++ [x6_2]) := ⟨_, rfl⟩
         replace H : (Z51.l0 k2 l0 y294 x4_2 (l0.length : Int) (wrap64 (x17_1 + 1))) = some r := by first | (rw [hy294]; exact H) | exact H
         have Ny294 := A_ hy294
         clear hy294
         have H' := A_ H
         clear H
         obtain ⟨Ao19, co19, eo19⟩ := Kd.R_slice HO_4.out
         subst eo19
         have p293 : 0 ≤ (x7_2 : Int) := oB_ qe_
         have q293 : x7_2 < (x4_2.length : Int) := oB_ qe_
         obtain ⟨ad293, e293, hx293_0⟩ := Kd.at_bool (Kd.R_reads' HO_4.out).2.2 x7_2 p293 q293
         (try rw [← Nbq15.out] at hx293_0)
         cases e293
         replace p293 := eq_true p293
         replace q293 := eq_true q293
         obtain ⟨Ao20, co20, eo20⟩ := Kd.R_slice HO_6.out
         subst eo20
         go_wp2_with (first | ((with_reducible refine gate_builtin (b := .append) (xs := #[.tmp 41, .tmp 43]) rfl ?_); at_builtin; refine Kd.S_append (Kd.slice 3 (Kd.int .i64)) (w0 := w) w.heap.size rfl (.tmp 41) (.tmp 43) 22 27 (.slice none 0 0) 24 rfl Tryz.underlying22 info27 rfl (by decide) (by omega) u3 x3_1 x6_2 [.slice Ao20 x6_2.length co20] (fun _ => True) (fun k_ => some k_ = (.slice Ao20 x6_2.length co20 : Value).ownBlock) rfl rfl ?aP (fun k_ hk_ => ((Kd.R_mono (ok' := fun k_ => ((fun _ => True)) k_ ∧ some k_ ≠ (u3 : Value).ownBlock) (Kd.R_apart' (HO_6.out) (Kd.S_typed HO_3.out) (by decide)) (fun k_ hk => ⟨trivial, hk.2⟩))).1 k_ hk_.symm) ?aF ?aO ?aB ?aS ?aL ?_; (case aP => exact Kd.M_row (Kd.R_mono (Kd.R_tight rfl (Kd.R_mono (ok' := fun k_ => ((fun _ => True)) k_ ∧ some k_ ≠ (u3 : Value).ownBlock) (Kd.R_apart' (HO_6.out) (Kd.S_typed HO_3.out) (by decide)) (fun k_ hk => ⟨trivial, hk.2⟩))) (fun _ h_ => h_))); (case aB => exact hB_); (case aF => exact (fun _ _ => trivial)); (case aO => exact (sw_ (Kd.S_mono HO_3.out (fun k_ hk => ⟨trivial, fun e_ => hk e_⟩)))); (case aS => exact (bF_ hB_)); (case aL => have := LMc18.out; omega); intro v295 w21 ho hb hg hat; rw [← Ny294.out] at ho; replace HO_4 := A_ (Kd.R_over' (rr_ HO_4) (Kd.S_typed (ss_ HO_3)) (by decide) hg); replace HB := A_ hb; have HO296 := A_ ho; clear HO_3 HO_6; clear ho hb hg hat))
         go_roundg k2
         case measure => have := HK1.out; have := HK2.out; omega
         case rel => exact ⟨(y294), (x4_2), (wrap64 (x17_1 + 1)), qc_, H', ⟨by have := HK1.out; have := HK2.out; omega⟩, ⟨(ss_ HO296)⟩, ⟨(rr_ HO_4)⟩, ⟨hB_⟩⟩
        ·rw [if_neg c17] at H
         have c17b0 : decide (0 < (x6_2.length : Int)) = false := oD_ c17
         have c17b1 : decide (0 < x6_2.length) = false := oD_ (by omega)
         clear c17
         have H' := A_ H
         clear H
         obtain ⟨Ao22, co22, eo22⟩ := Kd.R_slice HO_4.out
         subst eo22
         have p293 : 0 ≤ (x7_2 : Int) := oB_ qe_
         have q293 : x7_2 < (x4_2.length : Int) := oB_ qe_
         obtain ⟨ad293, e293, hx293_0⟩ := Kd.at_bool (Kd.R_reads' HO_4.out).2.2 x7_2 p293 q293
         (try rw [← Nbq15.out] at hx293_0)
         cases e293
         replace p293 := eq_true p293
         replace q293 := eq_true q293
         obtain ⟨Ao23, co23, eo23⟩ := Kd.R_slice HO_6.out
         subst eo23
         go_wp2
         go_roundg k2
         case measure => have := HK1.out; have := HK2.out; omega
         case rel => exact ⟨(x3_1), (x4_2), (wrap64 (x17_1 + 1)), qc_, H', ⟨by have := HK1.out; have := HK2.out; omega⟩, ⟨(sw_ (Kd.S_mono HO_3.out (fun _ hk => trivial)))⟩, ⟨(rr_ HO_4)⟩, ⟨hB_⟩⟩
       ·replace c16 := Bool.eq_false_iff.mpr c16
        subst c16
        have H1 : (if x6_2.length < 17592186044416 then (if x7_2 < (l0.length : Int) then (Z51.l1 k2 l0 x3_1 (x4_2.set (x7_2 : Int).toNat true) (x6_2 ++ [x7_2]) (rd l0 x7_2) (l0.length : Int) x17_1) else (none)) else (none)) = some r := by rw [if_neg (show ¬ (false = true) by decide)] at H; exact H
        clear H
        have H := H1
        clear H1
        obtain ⟨y297, hy297⟩ : ∃ y_ : List Bool, y_ = (x4_2.set (x7_2 : Int).toNat true) := ⟨_, rfl⟩
        replace H : (if x6_2.length < 17592186044416 then (if x7_2 < (l0.length : Int) then (Z51.l1 k2 l0 x3_1 y297 (x6_2 ++ [x7_2]) (rd l0 x7_2) (l0.length : Int) x17_1) else (none)) else (none)) = some r := by first | (rw [hy297]; exact H) | exact H
        have Ny297 := A_ hy297
        clear hy297
        have c25 := cp_ H
        replace H := ca_ H
        have LMc25 := A_ c25
        clear c25
        obtain ⟨y298, hy298⟩ : ∃ y_ : List Int, y_ = (x6_2 ++ [x7_2]) := ⟨_, rfl⟩
        replace H : (if x7_2 < (l0.length : Int) then (Z51.l1 k2 l0 x3_1 y297 y298 (rd l0 x7_2) (l0.length : Int) x17_1) else (none)) = some r := by first | (rw [hy298]; exact H) | exact H
        have Ny298 := A_ hy298
        clear hy298
        have c26 := cp_ H
        replace H := ca_ H
        have c26b0 := oC_ c26
        clear c26
        have H' := A_ H
        clear H
        obtain ⟨Ao27, co27, eo27⟩ := Kd.R_slice HO_4.out
        subst eo27
        have p293 : 0 ≤ (x7_2 : Int) := oB_ qe_
        have q293 : x7_2 < (x4_2.length : Int) := oB_ qe_
        obtain ⟨ad293, e293, hx293_0⟩ := Kd.at_bool (Kd.R_reads' HO_4.out).2.2 x7_2 p293 q293
        (try rw [← Nbq15.out] at hx293_0)
        cases e293
        replace p293 := eq_true p293
        replace q293 := eq_true q293
        have p24 : 0 ≤ (x7_2 : Int) := oB_ qe_
        have q24 : (x7_2 : Int) < ((x4_2.length : Int) : Int) := oB_ qe_
        obtain ⟨go24, co24, eo24, gb24, gl24, cl24, HG24⟩ := Kd.R_form HO_4.out (by omega)
        (first | cases eo24 | (injection eo24 with ea_ en_ ec_; (first | subst ea_ | (injection ea_ with ea_; subst ea_)); subst ec_; clear en_))
        have GB24 := A_ gb24
        have GG24 := A_ HG24
        clear gb24 gl24 HG24
        (first | simp only [add_plain] at hx293_0 | skip)
        obtain ⟨hx24_0, hf24_0⟩ := Kd.R_celln false HO_4.out (x7_2 : Int) p24 q24
        replace p24 := eq_true p24
        replace q24 := eq_true q24
        have HP28 := Kd.R_putg HO_4.out (x7_2 : Int) true
        go_wp2_with (first | ((with_reducible refine gate_store (t := 4) (p := 33) rfl ?_); refine store_event (t := 4) (p := 33) (v := ?vo_w29) (w1 := (wr.setCell ⟨go24, (x7_2 : Int).toNat, none⟩ (.bool true))) ?hg ?ho ?hn ?hr ?_; (case ho => rfl); (case hg => rfl); (case hn => rfl); (case hr => first | (go_simp; done) | (go_simp; rfl)); intro w29 hw; have hg : wr.grownBy w29 (some go24) := (by rw [hw]; exact HP28.2); have hp_ : Kd.R Kd.bool 4 w29 w.heap.size (fun _ => True) (.slice (some ⟨go24, 0, none⟩) x4_2.length co27) y297 := (by rw [hw, Ny297.out]; exact HP28.1); clear HP28; replace HO_3 := A_ (Kd.S_over' (v := (.slice (some ⟨go24, 0, none⟩) x4_2.length co27)) (ss_ HO_3) (Kd.R_typed HO_4.out) (by decide) hg); replace HO_6 := A_ (Kd.R_over' (v := (.slice (some ⟨go24, 0, none⟩) x4_2.length co27)) (rr_ HO_6) (Kd.R_typed HO_4.out) (by decide) hg); replace HO_4 := A_ (hp_); replace HB := A_ ((by rw [hw]; exact bD_ (HB.out) GB24.out : Below w.heap.size w w29)); clear hg hw hp_) | ((with_reducible refine gate_builtin (b := .append) (xs := #[.tmp 34, .tmp 36]) rfl ?_); at_builtin; refine Kd.R_append (Kd.int .i64) (w0 := w) w.heap.size rfl (.tmp 34) (.tmp 36) 27 3 (.int .i64 0) 8 rfl Tryz.underlying27 info3 rfl (by decide) (by omega) u6 x6_2 x7_2 [.int .i64 x7_2] (fun _ => True) (fun _ => False) rfl rfl ?aP (fun _ hk => hk.elim) ?aF ?aO ?aB ?aS ?aL ?_; (case aP => exact rfl); (case aB => exact hB_); (case aF => exact (fun _ _ => trivial)); (case aO => exact (rr_ HO_6)); (case aS => exact (bF_ hB_)); (case aL => have := LMc25.out; omega); intro v299 w30 ho hb hg hat; rw [← Ny298.out] at ho; replace HO_3 := A_ (Kd.S_after (ok := (fun _ => True)) (sw_ (Kd.S_mono HO_3.out (fun _ hk => ⟨trivial, hk⟩))) hg hat); replace HO_4 := A_ (Kd.R_over' (rr_ HO_4) (Kd.R_typed (rr_ HO_6)) (by decide) hg); replace HB := A_ hb; have HO300 := A_ ho; clear HO_6; clear ho hb hg hat; have p301 : 0 ≤ (x7_2 : Int) := oB_ qe_; have q301 : x7_2 < (l0.length : Int) := oB_ qe_; obtain ⟨ad301, e301, hx301_0⟩ := Kd.at_int HR0.out x7_2 p301 q301; cases e301; replace hx301_0 := (HB.out.cell (World.block_lt_of_cell? w _ hx301_0)).trans hx301_0; replace p301 := eq_true p301; replace q301 := eq_true q301))
        go_roundg k2
        case measure => have := HK1.out; have := HK2.out; omega
        case rel => exact ⟨(y297), (y298), (rd l0 x7_2), qc_, H', ⟨by have := HK1.out; have := HK2.out; omega⟩, ⟨(sw_ (Kd.S_mono HO_3.out (fun _ hk => hk.2)))⟩, ⟨(rr_ HO_4)⟩, ⟨(rr_ HO300)⟩, ⟨hB_⟩⟩
    ·rw [if_neg c10] at H
     have c10b0 := oD_ c10
     clear c10
     obtain rfl := Option.some.inj H
     go_wp2
     go_ret
     exact ⟨_, qb_, (ss_ HO_3), hB_⟩
 ·replace c3 := Bool.eq_false_iff.mpr c3
  subst c3
  have H1 : (some ([] : List (List Int))) = some r := by rw [if_neg (show ¬ (false = true) by decide)] at H; exact H
  clear H
  have H := H1
  clear H1
  obtain rfl := Option.some.inj H
  go_enter Tryz.func81, Tryz.ntmps81
  go_wp2_with (first | ((with_reducible refine gA_ (f := 75) rfl ?_); refine gL_ (some 9) Tryz.func75 #[.slice A0 l0.length c0] rfl qa_ ?_; (with_reducible refine (Z64.calls k _ _ l0 false _ (cc_ HR0) HC0.out A2.out).mono ?_); rintro e w' ⟨rfl, ⟨nd, rfl⟩⟩; refine ⟨_, rfl, ?_⟩))
  go_ret
  exact ⟨_, qb_, by first | exact Kd.S_nil _ _ _ _ _ | exact Kd.N_nil _ _ _ _ _ | exact Kd.V_nil _ _ _ _ _ | exact Kd.Q_nil _ _ _ _ _ | exact Kd.R_nil _ _ _ _ _, hB_⟩
end Go.Proofs.YtoijcallajegfaaGreat.A
end
section
namespace Go.Proofs.YtoijcallajegfaaGreat.A
open Go.RowKit Go.Proofs.YtoijcallajegfaaGreatW.PrintWords Go.Proofs.YtoijcallajegfaaGreatW.PrintLast Go.Proofs.YtoijcallajegfaaGreatW.PrintMore
attribute [local go_sem] max2_int min2_int max_two min_two max_three min_three max_four min_four
set_option linter.unusedVariables false
set_option linter.unusedSimpArgs false
def Z58.l0 : Nat → List Int → List Int → List Int → Int → Int → Option (List Int)
 | 0, _, _, _, _, _ => none
 | k + 1, x1, x5, x9, x10, x11 => if x11 < x10 then (if 0 ≤ x11 then (if x11 < (x9.length : Int) then (if 0 ≤ (rd x9 x11) then (if (rd x9 x11) < (x1.length : Int) then (if x5.length < 17592186044416 then (Z58.l0 k x1 (x5 ++ [rd x1 (rd x9 x11)]) x9 x10 (wrap64 (x11 + 1))) else (none)) else (none)) else (none)) else (none)) else (none)) else (some x5)
def Z58.f (k : Nat) (l0 : List Int) (l1 : List Int) : Option (List Int) := Z58.l0 k l1 (([] : List Int)) l0 (l0.length : Int) 0
theorem Z58.mono_l : ∀ k, (∀ y0 y1 y2 y3 y4, LeO (Z58.l0 k y0 y1 y2 y3 y4) (Z58.l0 (k + 1) y0 y1 y2 y3 y4))
 | 0 => fun _ _ _ _ _ r h => by simp [Z58.l0] at h
 | k + 1 => by
  have ih0 := Z58.mono_l k
  ·intro y0 y1 y2 y3 y4
   unfold Z58.l0
   repeat' first|exact ih0 _ _ _ _ _|exact lo_|refine LeO.ite ?_ ?_|refine LeO.bind ?_ (fun _ => ?_)
theorem Z58.mono : ∀ a0 a1 k, LeO (Z58.f k a0 a1) (Z58.f (k + 1) a0 a1) := by
 intro a0 a1 k
 have ih0 := Z58.mono_l k
 unfold Z58.f
 repeat' first|exact ih0 _ _ _ _ _|exact lo_|refine LeO.ite ?_ ?_|refine LeO.bind ?_ (fun _ => ?_)
set_option maxHeartbeats 8000000 in
set_option maxRecDepth 100000 in
theorem Z58.calls (k : Nat) (A0 : Option Addr) (c0 : Nat) (l0 : List Int) (A1 : Option Addr) (c1 : Nat) (l1 : List Int) (r : List Int) (w : World) (hr0 : Kd.C (Kd.int .i64) w A0 l0.length l0) (hc0 : l0.length ≤ c0) (hr1 : Kd.C (Kd.int .i64) w A1 l1.length l1) (hc1 : l1.length ≤ c1) (h : Z58.f k l0 l1 = some r) :
  Calls Tryz.prog 97 #[.slice A0 l0.length c0, .slice A1 l1.length c1] w fun e w' => ∃ v0_ : Value, e = .returned (v0_) ∧ Kd.R (Kd.int .i64) 3 w' w.heap.size (fun _ => True) v0_ r ∧ Below w.heap.size w w' := by
 have HR0 := A_ hr0
 have HC0 := A_ hc0
 clear hr0 hc0
 have HR1 := A_ hr1
 have HC1 := A_ hc1
 clear hr1 hc1
 have HB := A_ (Below.refl w.heap.size w)
 have H := h
 unfold Z58.f at H
 clear h
 obtain ⟨y302, hy302⟩ : ∃ y_ : List Int, y_ = (([] : List Int)) := ⟨_, rfl⟩
 replace H : (Z58.l0 k l1 y302 l0 (l0.length : Int) 0) = some r := by first | (rw [hy302]; exact H) | exact H
 have Ny302 := A_ hy302
 clear hy302
 have H' := A_ H
 clear H
 go_enter Tryz.func97, Tryz.ntmps97
 go_wp2_with (first | ((with_reducible refine gB_ (N := 8) rfl ?_); refine Kd.R_lit (Kd.int .i64) _ 3 ?hg (N := 8) ?hd (xs := ([] : List Int)) (inner := []) (ok := fun _ => True) (okp := fun _ => True) ?hr ?hp (fun _ hk => hk) trivial (Below.refl _ _) (nA_ _) (by simp) ?_; (case hd => rfl); (case hg => rfl); (case hr => first | (go_simp; done) | (go_simp; rfl)); (case hp => exact (Reps.none _ _)); intro v303 w3 ho4 hb hg_ hnew_; clear hg_ hnew_; (first | rw [← Ny302.out] at ho4 | (simp only [Int.reduceToNat] at ho4; rw [← Ny302.out] at ho4)); have HO304 := rl_ w ho4; replace HB := b1_ hb; clear hb ho4))
 go_loopg [5, 11] k (fun kq v5 v11 w' => ∃ (x5_1 : List Int) (x11_1 : Int), v11 = .int .i64 x11_1 ∧ Aside0 (Z58.l0 kq l1 x5_1 l0 (l0.length : Int) x11_1 = some r) ∧ Aside0 (kq ≤ k) ∧ Aside0 (Kd.R (Kd.int .i64) 3 w' w.heap.size (fun _ => True) v5 x5_1) ∧ Aside0 (Below w.heap.size w w'))
 case atStart => exact ⟨(y302), (0), qc_, H', ⟨nA_ _⟩, ⟨(rr_ HO304)⟩, ⟨hB_⟩⟩
 case round =>
  clear H'
  obtain ⟨x5_1, x11_1, rfl, HA, HK1, HO_5, HB⟩ := hrel
  cases gk with
  | zero => exact absurd HA.out (by simp [Z58.l0])
  | succ k1 =>
   have H := HA.out
   clear HA
   simp only [Z58.l0] at H
   by_cases c5 : x11_1 < (l0.length : Int)
   ·rw [if_pos c5] at H
    have c5b0 := oC_ c5
    clear c5
    have c6 := cp_ H
    replace H := ca_ H
    have c6b0 := oC_ c6
    clear c6
    have c7 := cp_ H
    replace H := ca_ H
    have c7b0 := oC_ c7
    clear c7
    have c8 := cp_ H
    replace H := ca_ H
    have c8b0 := oC_ c8
    clear c8
    have c9 := cp_ H
    replace H := ca_ H
    have c9b0 := oC_ c9
    clear c9
    have c10 := cp_ H
    replace H := ca_ H
    have LMc10 := A_ c10
    clear c10
    obtain ⟨y307, hy307⟩ : ∃ y_ : List Int, y_ = (x5_1 ++ [rd l1 (rd l0 x11_1)]) := ⟨_, rfl⟩
    replace H : (Z58.l0 k1 l1 y307 l0 (l0.length : Int) (wrap64 (x11_1 + 1))) = some r := by first | (rw [hy307]; exact H) | exact H
    have Ny307 := A_ hy307
    clear hy307
    have H' := A_ H
    clear H
    have p305 : 0 ≤ (x11_1 : Int) := oB_ qe_
    have q305 : x11_1 < (l0.length : Int) := oB_ qe_
    obtain ⟨ad305, e305, hx305_0⟩ := Kd.at_int HR0.out x11_1 p305 q305
    cases e305
    replace hx305_0 := (HB.out.cell (World.block_lt_of_cell? w _ hx305_0)).trans hx305_0
    replace p305 := eq_true p305
    replace q305 := eq_true q305
    have p306 : 0 ≤ ((rd l0 x11_1) : Int) := oB_ qe_
    have q306 : (rd l0 x11_1) < (l1.length : Int) := oB_ qe_
    obtain ⟨ad306, e306, hx306_0⟩ := Kd.at_int HR1.out (rd l0 x11_1) p306 q306
    cases e306
    replace hx306_0 := (HB.out.cell (World.block_lt_of_cell? w _ hx306_0)).trans hx306_0
    replace p306 := eq_true p306
    replace q306 := eq_true q306
    go_wp2_with (first | ((with_reducible refine gate_builtin (b := .append) (xs := #[.tmp 15, .tmp 20]) rfl ?_); at_builtin; refine Kd.R_append (Kd.int .i64) (w0 := w) w.heap.size rfl (.tmp 15) (.tmp 20) 27 3 (.int .i64 0) 8 rfl Tryz.underlying27 info3 rfl (by decide) (by omega) u5 x5_1 (rd l1 (rd l0 x11_1)) [.int .i64 (rd l1 (rd l0 x11_1))] (fun _ => True) (fun _ => False) rfl rfl ?aP (fun _ hk => hk.elim) ?aF ?aO ?aB ?aS ?aL ?_; (case aP => exact rfl); (case aB => exact hB_); (case aF => exact (fun _ _ => trivial)); (case aO => exact (rr_ HO_5)); (case aS => exact (bF_ hB_)); (case aL => have := LMc10.out; omega); intro v308 w11 ho hb hg hat; rw [← Ny307.out] at ho; replace HB := A_ hb; have HO309 := A_ ho; clear HO_5; clear ho hb hg hat))
    go_roundg k1
    case measure => have := HK1.out; omega
    case rel => exact ⟨(y307), (wrap64 (x11_1 + 1)), qc_, H', ⟨by have := HK1.out; omega⟩, ⟨(rr_ HO309)⟩, ⟨hB_⟩⟩
   ·rw [if_neg c5] at H
    have c5b0 := oD_ c5
    clear c5
    obtain rfl := Option.some.inj H
    go_wp2
    go_ret
    exact ⟨_, qb_, (rr_ HO_5), hB_⟩
def Z38.f (k : Nat) (l0_0 : List Int) (l0_1 : List Int) : Option (List Int) := (Z58.f k l0_0 l0_1).bind fun t311 => ((Z24.f k l0_0).bind fun t314 => ((Z24.f k l0_1).bind fun t317 => ((Z58.f k t314 t317).bind fun t320 => ((Z58.f k t311 t320).bind fun t323 => (some t323)))))
theorem Z38.mono : ∀ a0 a1 k, LeO (Z38.f k a0 a1) (Z38.f (k + 1) a0 a1) := by
 intro a0 a1 k
 unfold Z38.f
 repeat' first|exact Z24.mono _ _|exact Z58.mono _ _ _|exact lo_|refine LeO.ite ?_ ?_|refine LeO.bind ?_ (fun _ => ?_)
def Z38.T2 : Bool × List (List Nat × List Nat) := (true, [([], []), ([0], [0]), ([1], [1]), ([], []), ([3], [3]), ([4, 2], [4]), ([2, 5, 5], [2, 5]), ([6, 6, 0, 1, 2, 3, 4, 5, 6], [6])])
def Z38.B2 : List Nat := [0, 1, 3, 0, 8, 31, 63, 127]
theorem Z38.tab2 : rtab .any (opsOf Tryz.f82 2) = Z38.T2 := by kernel_rfl
theorem Z38.bits2 : waitsOk Z38.T2.2 Z38.B2 = true := by kernel_rfl
set_option maxHeartbeats 8000000 in
set_option maxRecDepth 100000 in
theorem Z38.calls (k : Nat) (A0_0 : Option Addr) (c0_0 : Nat) (l0_0 : List Int) (A0_1 : Option Addr) (c0_1 : Nat) (l0_1 : List Int) (r : List Int) (w : World) (hr0_0 : Kd.C (Kd.int .i64) w A0_0 l0_0.length l0_0) (hc0_0 : l0_0.length ≤ c0_0) (hr0_1 : Kd.C (Kd.int .i64) w A0_1 l0_1.length l0_1) (hc0_1 : l0_1.length ≤ c0_1) (h : Z38.f k l0_0 l0_1 = some r) :
  Calls Tryz.prog 82 #[.agg #[.slice A0_0 l0_0.length c0_0, .slice A0_1 l0_1.length c0_1]] w fun e w' => ∃ v0_ : Value, e = .returned (v0_) ∧ Kd.R (Kd.int .i64) 3 w' w.heap.size (fun _ => True) v0_ r ∧ Below w.heap.size w w' := by
 have hu38 := Tryz.underlying38
 have HR0_0 := A_ hr0_0
 have HC0_0 := A_ hc0_0
 clear hr0_0 hc0_0
 have HR0_1 := A_ hr0_1
 have HC0_1 := A_ hc0_1
 clear hr0_1 hc0_1
 have HB := A_ (Below.refl w.heap.size w)
 have H := h
 unfold Z38.f at H
 clear h
 obtain ⟨t311, A2, H⟩ := bi_ H
 obtain ⟨t314, A3, H⟩ := bi_ H
 obtain ⟨t317, A4, H⟩ := bi_ H
 obtain ⟨t320, A5, H⟩ := bi_ H
 obtain ⟨t323, A6, H⟩ := bi_ H
 obtain rfl := Option.some.inj H
 go_enter Tryz.func82, Tryz.ntmps82
 try go_wp2_with (first | ((with_reducible refine gB_ (N := 1) rfl ?_); refine bx_ 1 #[.slice A0_0 l0_0.length c0_0, .slice A0_1 l0_1.length c0_1] 38 ?_; intro gb310 hg w7 hbox hb; have BK310 := A_ hbox; have GW310 := gw_ w hg; have GE310 := GW310; replace HB := b1_ hb; clear hb hbox hg; obtain ⟨hcz8_0, hcz8_1, hfz8_0, hfz8_1⟩ := c2_ BK310) | ((with_reducible refine gA_ (f := 97) rfl ?_); refine gL_ (some 9) Tryz.func97 #[.slice A0_0 l0_0.length c0_0, .slice A0_1 l0_1.length c0_1] rfl qa_ ?_; (with_reducible refine (Z58.calls k _ _ l0_0 _ _ l0_1 t311 _ (cb_ HR0_0) HC0_0.out (cb_ HR0_1) HC0_1.out A2.out).mono ?_); rintro e w9 ⟨v312, rfl, ho0, hb⟩; refine ⟨_, rfl, ?_⟩; have HO313 := rl_ w ho0; replace BK310 := bb_ BK310 hb; replace HB := b1_ hb; clear hb ho0))
 replace HO313 := A_ (rC_ HO313.out)
 replace BK310 := A_ (kB_ BK310.out)
 replace HB := A_ (bC_ HB.out)
 refine start_ (n := 8) (S := fun w' => w'.cell? ⟨gb310, 0, none⟩ = some (.slice A0_0 l0_0.length c0_0) ∧ w'.cell? ⟨gb310, 1, none⟩ = some (.slice A0_1 l0_1.length c0_1)) (ds := []) (bl_ 8 0) (by kernel_rfl) rfl (by kernel_rfl) ⟨cz0_ BK310, cz1_ BK310⟩ (fun hHeld => ?_); refine with_tabW Z38.tab2 Z38.bits2 (fun HT_ HW_ => ?_)
 generalize w9.drew = w10 at HO313 BK310 HB hHeld ⊢
 refine pu_ 0 (some 10) (bl_ 8 1) HT_ ?_
 refine pu_ 3 (some 13) (bl_ 8 9) HT_ ?_
 refine ta_ 1 (some 11) (bl_ 8 11) HT_ HW_ hHeld ?_
 refine ta_ 4 (some 14) (bl_ 8 27) HT_ HW_ hHeld ?_
 refine on_ 2 (some 12) (bl_ 8 31) HT_ (fun K hK => ?_)
 refine gO_ Tryz.func79 #[.slice A0_0 l0_0.length c0_0] (by rfl) rfl rfl qa_ ?_
 with_reducible refine (Z24.calls k _ _ l0_0 t314 _ (cb_ HR0_0) HC0_0.out A3.out).mono ?_
 rintro e w11 ⟨v315, rfl, ho0, hb⟩
 refine ⟨_, rfl, ?_⟩
 have HO316 := A_ (rE_ (Kd.R_new' ho0 (Kd.R_lt (rr_ HO313))) (bF_ hB_))
 replace HO313 := A_ (Kd.R_elder' (rr_ HO313) (Kd.R_base ho0) hb)
 replace BK310 := bb_ BK310 hb
 replace HB := b1_ hb
 clear hb ho0
 refine hK.out _ _ ⟨cz0_ BK310, cz1_ BK310⟩ (fun hHeld => ?_)
 clear hK K
 refine no_ (some 12) ?_
 refine on_ 5 (some 15) (bl_ 8 63) HT_ (fun K hK => ?_)
 refine gO_ Tryz.func79 #[.slice A0_1 l0_1.length c0_1] (by rfl) rfl rfl qa_ ?_
 with_reducible refine (Z24.calls k _ _ l0_1 t317 _ (cb_ HR0_1) HC0_1.out A4.out).mono ?_
 rintro e w12 ⟨v318, rfl, ho0, hb⟩
 refine ⟨_, rfl, ?_⟩
 have HO319 := A_ (rE_ (Kd.R_new' (Kd.R_new' ho0 (Kd.R_lt (rr_ HO313))) (Kd.R_lt (rr_ HO316))) (bF_ hB_))
 replace HO313 := A_ (Kd.R_elder' (rr_ HO313) (Kd.R_base ho0) hb)
 replace HO316 := A_ (Kd.R_elder' (rr_ HO316) (Kd.R_base ho0) hb)
 replace BK310 := bb_ BK310 hb
 replace HB := b1_ hb
 clear hb ho0
 obtain ⟨Ao13, co13, eo13⟩ := Kd.R_slice HO316.out
 (first | subst eo13 | (injection eo13 with f1_ f2_ f3_; have f4_ := f1_.symm; have f5_ := f3_.symm; clear f1_ f2_ f3_; subst f4_; subst f5_))
 obtain ⟨Ao14, co14, eo14⟩ := Kd.R_slice HO319.out
 (first | subst eo14 | (injection eo14 with f1_ f2_ f3_; have f4_ := f1_.symm; have f5_ := f3_.symm; clear f1_ f2_ f3_; subst f4_; subst f5_))
 refine hK.out _ _ ⟨cz0_ BK310, cz1_ BK310⟩ (fun hHeld => ?_)
 clear hK K
 refine no_ (some 15) ?_
 refine on_ 6 (some 16) (bl_ 8 127) HT_ (fun K hK => ?_)
 refine gO_ Tryz.func97 #[.slice Ao13 t314.length co13, .slice Ao14 t317.length co14] (by rfl) rfl rfl qa_ ?_
 with_reducible refine (Z58.calls k _ _ t314 _ _ t317 t320 _ (cr_ HO316) ((Kd.R_reads' HO316.out).2.1) (cr_ HO319) ((Kd.R_reads' HO319.out).2.1) A5.out).mono ?_
 rintro e w15 ⟨v321, rfl, ho0, hb⟩
 refine ⟨_, rfl, ?_⟩
 have HO322 := A_ (rE_ (Kd.R_new' (Kd.R_new' (Kd.R_new' ho0 (Kd.R_lt (rr_ HO313))) (Kd.R_lt (rr_ HO316))) (Kd.R_lt (rr_ HO319))) (bF_ hB_))
 replace HO313 := A_ (Kd.R_elder' (rr_ HO313) (Kd.R_base ho0) hb)
 replace HO316 := A_ (Kd.R_elder' (rr_ HO316) (Kd.R_base ho0) hb)
 replace HO319 := A_ (Kd.R_elder' (rr_ HO319) (Kd.R_base ho0) hb)
 replace BK310 := bb_ BK310 hb
 replace HB := b1_ hb
 clear hb ho0
 refine hK.out _ _ ⟨cz0_ BK310, cz1_ BK310⟩ (fun hHeld => ?_)
 clear hK K
 refine no_ (some 16) ?_
 refine pu_ 7 (some 4) (bl_ 8 255) HT_ ?_
 refine done_ (done_of HT_.out (by kernel_rfl)) ?_
 obtain ⟨Ao16, co16, eo16⟩ := Kd.R_slice HO313.out
 subst eo16
 obtain ⟨Ao17, co17, eo17⟩ := Kd.R_slice HO322.out
 subst eo17
 try go_wp2_with (first | ((with_reducible refine gA_ (f := 97) rfl ?_); refine gL_ (some 19) Tryz.func97 #[.slice Ao16 t311.length co16, .slice Ao17 t320.length co17] rfl qa_ ?_; (with_reducible refine (Z58.calls k _ _ t311 _ _ t320 t323 _ (cr_ HO313) ((Kd.R_reads' HO313.out).2.1) (cr_ HO322) ((Kd.R_reads' HO322.out).2.1) A6.out).mono ?_); rintro e w18 ⟨v324, rfl, ho0, hb⟩; refine ⟨_, rfl, ?_⟩; have HO325 := A_ (rE_ (Kd.R_new' (Kd.R_new' (Kd.R_new' (Kd.R_new' ho0 (Kd.R_lt (rr_ HO313))) (Kd.R_lt (rr_ HO316))) (Kd.R_lt (rr_ HO319))) (Kd.R_lt (rr_ HO322))) (bF_ hB_)); replace HO313 := A_ (Kd.R_elder' (rr_ HO313) (Kd.R_base ho0) hb); replace HO316 := A_ (Kd.R_elder' (rr_ HO316) (Kd.R_base ho0) hb); replace HO319 := A_ (Kd.R_elder' (rr_ HO319) (Kd.R_base ho0) hb); replace HO322 := A_ (Kd.R_elder' (rr_ HO322) (Kd.R_base ho0) hb); replace BK310 := bb_ BK310 hb; replace HB := b1_ hb; clear hb ho0))
 go_ret
 exact ⟨_, qb_, (rw_ (Kd.R_mono HO325.out (fun _ hk => trivial))), hB_⟩
def Z32.f (k : Nat) (l0_0 : List Int) (l0_1 : List Int) : Option ((List (List Int))) := (Z34.f k l0_0 l0_1).bind fun t327 => (if t327 = true then ((Z38.f k l0_0 l0_1).bind fun t328 => ((Z51.f k t328).bind fun t331 => (some t331))) else (some ([] : List (List Int))))
theorem Z32.mono : ∀ a0 a1 k, LeO (Z32.f k a0 a1) (Z32.f (k + 1) a0 a1) := by
 intro a0 a1 k
 unfold Z32.f
 repeat' first|exact Z51.mono _ _|exact Z34.mono _ _ _|exact Z38.mono _ _ _|exact lo_|refine LeO.ite ?_ ?_|refine LeO.bind ?_ (fun _ => ?_)
set_option maxHeartbeats 8000000 in
set_option maxRecDepth 100000 in
theorem Z32.calls (k : Nat) (A0_0 : Option Addr) (c0_0 : Nat) (l0_0 : List Int) (A0_1 : Option Addr) (c0_1 : Nat) (l0_1 : List Int) (r : List (List Int)) (w : World) (hr0_0 : Kd.C (Kd.int .i64) w A0_0 l0_0.length l0_0) (hc0_0 : l0_0.length ≤ c0_0) (hr0_1 : Kd.C (Kd.int .i64) w A0_1 l0_1.length l0_1) (hc0_1 : l0_1.length ≤ c0_1) (h : Z32.f k l0_0 l0_1 = some r) :
  Calls Tryz.prog 52 #[.agg #[.slice A0_0 l0_0.length c0_0, .slice A0_1 l0_1.length c0_1]] w fun e w' => ∃ v0_ : Value, e = .returned (v0_) ∧ Kd.S (Kd.slice 3 (Kd.int .i64)) 27 w' w.heap.size (fun _ => True) v0_ r ∧ Below w.heap.size w w' := by
 have hu38 := Tryz.underlying38
 have HR0_0 := A_ hr0_0
 have HC0_0 := A_ hc0_0
 clear hr0_0 hc0_0
 have HR0_1 := A_ hr0_1
 have HC0_1 := A_ hc0_1
 clear hr0_1 hc0_1
 have HB := A_ (Below.refl w.heap.size w)
 have H := h
 unfold Z32.f at H
 clear h
 obtain ⟨t327, A2, H⟩ := bi_ H
 by_cases c3 : t327 = true
 ·subst c3
  rw [if_pos rfl] at H
  obtain ⟨t328, A4, H⟩ := bi_ H
  obtain ⟨t331, A5, H⟩ := bi_ H
  obtain rfl := Option.some.inj H
  go_enter Tryz.func52, Tryz.ntmps52
  go_wp2_with (first | ((with_reducible refine gB_ (N := 1) rfl ?_); refine bx_ 1 #[.slice A0_0 l0_0.length c0_0, .slice A0_1 l0_1.length c0_1] 38 ?_; intro gb326 hg w6 hbox hb; have BK326 := A_ hbox; have GW326 := gw_ w hg; have GE326 := GW326; replace HB := b1_ hb; clear hb hbox hg; obtain ⟨hcz7_0, hcz7_1, hfz7_0, hfz7_1⟩ := c2_ BK326) | ((with_reducible refine gA_ (f := 33) rfl ?_); refine gL_ (some 4) Tryz.func33 #[.agg #[.slice A0_0 l0_0.length c0_0, .slice A0_1 l0_1.length c0_1]] rfl qa_ ?_; (with_reducible refine (Z34.calls k _ _ l0_0 _ _ l0_1 true _ (cb_ HR0_0) HC0_0.out (cb_ HR0_1) HC0_1.out A2.out).mono ?_); rintro e w8 ⟨rfl, hb⟩; refine ⟨_, rfl, ?_⟩; replace BK326 := bb_ BK326 hb; replace HB := b1_ hb; clear hb; obtain ⟨hcz9_0, hcz9_1, hfz9_0, hfz9_1⟩ := c2_ BK326) | ((with_reducible refine gA_ (f := 82) rfl ?_); refine gL_ (some 7) Tryz.func82 #[.agg #[.slice A0_0 l0_0.length c0_0, .slice A0_1 l0_1.length c0_1]] rfl qa_ ?_; (with_reducible refine (Z38.calls k _ _ l0_0 _ _ l0_1 t328 _ (cb_ HR0_0) HC0_0.out (cb_ HR0_1) HC0_1.out A4.out).mono ?_); rintro e w10 ⟨v329, rfl, ho0, hb⟩; refine ⟨_, rfl, ?_⟩; have HO330 := rl_ w ho0; replace BK326 := bb_ BK326 hb; replace HB := b1_ hb; clear hb ho0; obtain ⟨Ao11, co11, eo11⟩ := Kd.R_slice HO330.out; subst eo11) | ((with_reducible refine gA_ (f := 81) rfl ?_); refine gL_ (some 8) Tryz.func81 #[.slice Ao11 t328.length co11] rfl qa_ ?_; (with_reducible refine (Z51.calls k _ _ t328 t331 _ (cr_ HO330) ((Kd.R_reads' HO330.out).2.1) A5.out).mono ?_); rintro e w12 ⟨v332, rfl, ho0, hb⟩; refine ⟨_, rfl, ?_⟩; have HO333 := A_ (Kd.S_lower (Kd.S_new' ho0 (Kd.R_lt (rr_ HO330))) (bF_ hB_)); replace HO330 := rb_ HO330 hb; replace BK326 := bb_ BK326 hb; replace HB := b1_ hb; clear hb ho0))
  go_ret
  exact ⟨_, qb_, (sw_ (Kd.S_mono HO333.out (fun _ hk => trivial))), hB_⟩
 ·replace c3 := Bool.eq_false_iff.mpr c3
  subst c3
  have H1 : (some ([] : List (List Int))) = some r := by rw [if_neg (show ¬ (false = true) by decide)] at H; exact H
  clear H
  have H := H1
  clear H1
  obtain rfl := Option.some.inj H
  go_enter Tryz.func52, Tryz.ntmps52
  go_wp2_with (first | ((with_reducible refine gB_ (N := 1) rfl ?_); refine bx_ 1 #[.slice A0_0 l0_0.length c0_0, .slice A0_1 l0_1.length c0_1] 38 ?_; intro gb326 hg w13 hbox hb; have BK326 := A_ hbox; have GW326 := gw_ w hg; have GE326 := GW326; replace HB := b1_ hb; clear hb hbox hg; obtain ⟨hcz14_0, hcz14_1, hfz14_0, hfz14_1⟩ := c2_ BK326) | ((with_reducible refine gA_ (f := 33) rfl ?_); refine gL_ (some 4) Tryz.func33 #[.agg #[.slice A0_0 l0_0.length c0_0, .slice A0_1 l0_1.length c0_1]] rfl qa_ ?_; (with_reducible refine (Z34.calls k _ _ l0_0 _ _ l0_1 false _ (cb_ HR0_0) HC0_0.out (cb_ HR0_1) HC0_1.out A2.out).mono ?_); rintro e w15 ⟨rfl, hb⟩; refine ⟨_, rfl, ?_⟩; replace BK326 := bb_ BK326 hb; replace HB := b1_ hb; clear hb))
  go_ret
  exact ⟨_, qb_, by first | exact Kd.S_nil _ _ _ _ _ | exact Kd.N_nil _ _ _ _ _ | exact Kd.V_nil _ _ _ _ _ | exact Kd.Q_nil _ _ _ _ _ | exact Kd.R_nil _ _ _ _ _, hB_⟩
def Z50.f (k : Nat) (l0_0 : List Int) (l0_1 : List Int) : Option (List Int) := (Z32.f k l0_0 l0_1).bind fun t335 => ((Z25.f k t335).bind fun t338 => (some t338))
theorem Z50.mono : ∀ a0 a1 k, LeO (Z50.f k a0 a1) (Z50.f (k + 1) a0 a1) := by
 intro a0 a1 k
 unfold Z50.f
 repeat' first|exact Z32.mono _ _ _|exact Z25.mono _ _|exact lo_|refine LeO.ite ?_ ?_|refine LeO.bind ?_ (fun _ => ?_)
set_option maxHeartbeats 8000000 in
set_option maxRecDepth 100000 in
theorem Z50.calls (k : Nat) (A0_0 : Option Addr) (c0_0 : Nat) (l0_0 : List Int) (A0_1 : Option Addr) (c0_1 : Nat) (l0_1 : List Int) (r : List Int) (w : World) (hr0_0 : Kd.C (Kd.int .i64) w A0_0 l0_0.length l0_0) (hc0_0 : l0_0.length ≤ c0_0) (hr0_1 : Kd.C (Kd.int .i64) w A0_1 l0_1.length l0_1) (hc0_1 : l0_1.length ≤ c0_1) (h : Z50.f k l0_0 l0_1 = some r) :
  Calls Tryz.prog 36 #[.agg #[.slice A0_0 l0_0.length c0_0, .slice A0_1 l0_1.length c0_1]] w fun e w' => ∃ v0_ : Value, e = .returned (v0_) ∧ Kd.R (Kd.int .i64) 3 w' w.heap.size (fun _ => True) v0_ r ∧ Below w.heap.size w w' := by
 have hu38 := Tryz.underlying38
 have HR0_0 := A_ hr0_0
 have HC0_0 := A_ hc0_0
 clear hr0_0 hc0_0
 have HR0_1 := A_ hr0_1
 have HC0_1 := A_ hc0_1
 clear hr0_1 hc0_1
 have HB := A_ (Below.refl w.heap.size w)
 have H := h
 unfold Z50.f at H
 clear h
 obtain ⟨t335, A2, H⟩ := bi_ H
 obtain ⟨t338, A3, H⟩ := bi_ H
 obtain rfl := Option.some.inj H
 go_enter Tryz.func36, Tryz.ntmps36
 go_wp2_with (first | ((with_reducible refine gB_ (N := 1) rfl ?_); refine bx_ 1 #[.slice A0_0 l0_0.length c0_0, .slice A0_1 l0_1.length c0_1] 38 ?_; intro gb334 hg w4 hbox hb; have BK334 := A_ hbox; have GW334 := gw_ w hg; have GE334 := GW334; replace HB := b1_ hb; clear hb hbox hg; obtain ⟨hcz5_0, hcz5_1, hfz5_0, hfz5_1⟩ := c2_ BK334) | ((with_reducible refine gA_ (f := 52) rfl ?_); refine gL_ (some 4) Tryz.func52 #[.agg #[.slice A0_0 l0_0.length c0_0, .slice A0_1 l0_1.length c0_1]] rfl qa_ ?_; (with_reducible refine (Z32.calls k _ _ l0_0 _ _ l0_1 t335 _ (cb_ HR0_0) HC0_0.out (cb_ HR0_1) HC0_1.out A2.out).mono ?_); rintro e w6 ⟨v336, rfl, ho0, hb⟩; refine ⟨_, rfl, ?_⟩; have HO337 := A_ (Kd.S_lower ho0 (bF_ hB_)); replace BK334 := bb_ BK334 hb; replace HB := b1_ hb; clear hb ho0; obtain ⟨Ao7, co7, eo7⟩ := Kd.S_slice HO337.out; subst eo7) | ((with_reducible refine gA_ (f := 51) rfl ?_); refine gL_ (some 5) Tryz.func51 #[.slice Ao7 t335.length co7] rfl qa_ ?_; (with_reducible refine (Z25.calls k _ _ t335 t338 _ (cw_ ((Kd.S_reads' HO337.out).2.2)) ((Kd.S_reads' HO337.out).2.1) A3.out).mono ?_); rintro e w8 ⟨v339, rfl, ho0, hb⟩; refine ⟨_, rfl, ?_⟩; replace HO337 := A_ (Kd.S_elder' (ss_ HO337) (Kd.R_base ho0) hb); have HO340 := rl_ w ho0; replace BK334 := bb_ BK334 hb; replace HB := b1_ hb; clear hb ho0))
 go_ret
 exact ⟨_, qb_, (rr_ HO340), hB_⟩
def Z33.l0 : Nat → List Int → List Int → Int → Int → Option (List Int)
 | 0, _, _, _, _ => none
 | k + 1, x3, x8, x9, x10 => if x10 < x9 then (if 0 ≤ x10 then (if x10 < (x8.length : Int) then (if (rd x8 x10) > 1 then (if x3.length < 17592186044416 then (Z33.l0 k (x3 ++ [wrap64 ((rd x8 x10) - 1)]) x8 x9 (wrap64 (x10 + 1))) else (none)) else (Z33.l0 k x3 x8 x9 (wrap64 (x10 + 1)))) else (none)) else (none)) else (some x3)
def Z33.f (k : Nat) (l0_0 : List Int) (l0_1 : List Int) : Option (List Int) := (Z50.f k l0_0 l0_1).bind fun t345 => (Z33.l0 k (([] : List Int)) t345 (t345.length : Int) 0)
theorem Z33.mono_l : ∀ k, (∀ y0 y1 y2 y3, LeO (Z33.l0 k y0 y1 y2 y3) (Z33.l0 (k + 1) y0 y1 y2 y3))
 | 0 => fun _ _ _ _ r h => by simp [Z33.l0] at h
 | k + 1 => by
  have ih0 := Z33.mono_l k
  ·intro y0 y1 y2 y3
   unfold Z33.l0
   repeat' first|exact ih0 _ _ _ _|exact Z50.mono _ _ _|exact lo_|refine LeO.ite ?_ ?_|refine LeO.bind ?_ (fun _ => ?_)
theorem Z33.mono : ∀ a0 a1 k, LeO (Z33.f k a0 a1) (Z33.f (k + 1) a0 a1) := by
 intro a0 a1 k
 have ih0 := Z33.mono_l k
 unfold Z33.f
 repeat' first|exact ih0 _ _ _ _|exact Z50.mono _ _ _|exact lo_|refine LeO.ite ?_ ?_|refine LeO.bind ?_ (fun _ => ?_)
set_option maxHeartbeats 8000000 in
set_option maxRecDepth 100000 in
theorem Z33.calls (k : Nat) (A0_0 : Option Addr) (c0_0 : Nat) (l0_0 : List Int) (A0_1 : Option Addr) (c0_1 : Nat) (l0_1 : List Int) (r : List Int) (w : World) (hr0_0 : Kd.C (Kd.int .i64) w A0_0 l0_0.length l0_0) (hc0_0 : l0_0.length ≤ c0_0) (hr0_1 : Kd.C (Kd.int .i64) w A0_1 l0_1.length l0_1) (hc0_1 : l0_1.length ≤ c0_1) (h : Z33.f k l0_0 l0_1 = some r) :
  Calls Tryz.prog 19 #[.agg #[.slice A0_0 l0_0.length c0_0, .slice A0_1 l0_1.length c0_1]] w fun e w' => ∃ v0_ : Value, e = .returned (v0_) ∧ Kd.R (Kd.int .i64) 3 w' w.heap.size (fun _ => True) v0_ r ∧ Below w.heap.size w w' := by
 have hu38 := Tryz.underlying38
 have HR0_0 := A_ hr0_0
 have HC0_0 := A_ hc0_0
 clear hr0_0 hc0_0
 have HR0_1 := A_ hr0_1
 have HC0_1 := A_ hc0_1
 clear hr0_1 hc0_1
 have HB := A_ (Below.refl w.heap.size w)
 have H := h
 unfold Z33.f at H
 clear h
 obtain ⟨y342, hy342⟩ : ∃ y_ : List Int, y_ = (([] : List Int)) := ⟨_, rfl⟩
 replace H : ((Z50.f k l0_0 l0_1).bind fun t345 => (Z33.l0 k y342 t345 (t345.length : Int) 0)) = some r := by first | (rw [hy342]; exact H) | exact H
 have Ny342 := A_ hy342
 clear hy342
 obtain ⟨t345, A2, H⟩ := bi_ H
 have H' := A_ H
 clear H
 go_enter Tryz.func19, Tryz.ntmps19
 go_wp2_with (first | ((with_reducible refine gB_ (N := 1) rfl ?_); refine bx_ 1 #[.slice A0_0 l0_0.length c0_0, .slice A0_1 l0_1.length c0_1] 38 ?_; intro gb341 hg w3 hbox hb; have BK341 := A_ hbox; have GW341 := gw_ w hg; have GE341 := GW341; replace HB := b1_ hb; clear hb hbox hg) | ((with_reducible refine gB_ (N := 6) rfl ?_); refine Kd.R_lit (Kd.int .i64) _ 3 ?hg (N := 6) ?hd (xs := ([] : List Int)) (inner := []) (ok := fun _ => True) (okp := fun _ => True) ?hr ?hp (fun _ hk => hk) trivial (Below.refl _ _) (nA_ _) (by simp) ?_; (case hd => rfl); (case hg => rfl); (case hr => first | (go_simp; done) | (go_simp; rfl)); (case hp => exact (Reps.none _ _)); intro v343 w4 ho5 hb hg_ hnew_; clear hg_ hnew_; (first | rw [← Ny342.out] at ho5 | (simp only [Int.reduceToNat] at ho5; rw [← Ny342.out] at ho5)); have HO344 := rl_ w ho5; replace BK341 := bb_ BK341 hb; replace HB := b1_ hb; clear hb ho5; obtain ⟨hcz6_0, hcz6_1, hfz6_0, hfz6_1⟩ := c2_ BK341) | ((with_reducible refine gA_ (f := 36) rfl ?_); refine gL_ (some 8) Tryz.func36 #[.agg #[.slice A0_0 l0_0.length c0_0, .slice A0_1 l0_1.length c0_1]] rfl qa_ ?_; (with_reducible refine (Z50.calls k _ _ l0_0 _ _ l0_1 t345 _ (cb_ HR0_0) HC0_0.out (cb_ HR0_1) HC0_1.out A2.out).mono ?_); rintro e w7 ⟨v346, rfl, ho0, hb⟩; refine ⟨_, rfl, ?_⟩; have HO347 := A_ (rE_ (Kd.R_new' ho0 (Kd.R_lt (rr_ HO344))) (bF_ hB_)); replace HO344 := A_ (Kd.R_elder' (rr_ HO344) (Kd.R_base ho0) hb); replace BK341 := bb_ BK341 hb; replace HB := b1_ hb; clear hb ho0; obtain ⟨Ao8, co8, eo8⟩ := Kd.R_slice HO347.out; subst eo8))
 go_loopg [3, 10] k (fun kq v3 v10 w' => ∃ (x3_1 : List Int) (x10_1 : Int), v10 = .int .i64 x10_1 ∧ Aside0 (Z33.l0 kq x3_1 t345 (t345.length : Int) x10_1 = some r) ∧ Aside0 (kq ≤ k) ∧ Aside0 (Kd.R (Kd.int .i64) 3 w' w.heap.size (fun k_ => some k_ ≠ ((.slice Ao8 t345.length co8) : Value).ownBlock) v3 x3_1) ∧ Aside0 (Kd.R (Kd.int .i64) 3 w' w.heap.size (fun k_ => some k_ ≠ (v3 : Value).ownBlock) (.slice Ao8 t345.length co8) t345) ∧ Aside0 (w'.heap[gb341]? = some (.cells #[(.slice A0_0 l0_0.length c0_0), (.slice A0_1 l0_1.length c0_1)] 38 (0, 0))) ∧ Aside0 (Below w.heap.size w w'))
 case atStart => exact ⟨(y342), (0), qc_, H', ⟨nA_ _⟩, ⟨(rw_ (Kd.R_mono HO344.out (fun _ hk => hk.2)))⟩, ⟨(rw_ (Kd.R_mono HO347.out (fun _ hk => hk.2)))⟩, ⟨(kk_ BK341)⟩, ⟨hB_⟩⟩
 case round =>
  clear H'
  obtain ⟨x3_1, x10_1, rfl, HA, HK1, HO_3, HO_8, BK341, HB⟩ := hrel
  cases gk with
  | zero => exact absurd HA.out (by simp [Z33.l0])
  | succ k1 =>
   have H := HA.out
   clear HA
   simp only [Z33.l0] at H
   by_cases c9 : x10_1 < (t345.length : Int)
   ·rw [if_pos c9] at H
    have c9b0 := oC_ c9
    clear c9
    have c10 := cp_ H
    replace H := ca_ H
    have c10b0 := oC_ c10
    clear c10
    have c11 := cp_ H
    replace H := ca_ H
    have c11b0 := oC_ c11
    clear c11
    by_cases c12 : (rd t345 x10_1) > 1
    ·rw [if_pos c12] at H
     have c12b0 : decide (1 < (rd t345 x10_1)) = true := oC_ c12
     clear c12
     have c13 := cp_ H
     replace H := ca_ H
     have LMc13 := A_ c13
     clear c13
     obtain ⟨y349, hy349⟩ : ∃ y_ : List Int, y_ = (x3_1 ++ [wrap64 ((rd t345 x10_1) - 1)]) := ⟨_, rfl⟩
     replace H : (Z33.l0 k1 y349 t345 (t345.length : Int) (wrap64 (x10_1 + 1))) = some r := by first | (rw [hy349]; exact H) | exact H
     have Ny349 := A_ hy349
     clear hy349
     have H' := A_ H
     clear H
     have p348 : 0 ≤ (x10_1 : Int) := oB_ qe_
     have q348 : x10_1 < (t345.length : Int) := oB_ qe_
     obtain ⟨ad348, e348, hx348_0⟩ := Kd.at_int (Kd.R_reads' HO_8.out).2.2 x10_1 p348 q348
     cases e348
     replace p348 := eq_true p348
     replace q348 := eq_true q348
     go_wp2_with (first | ((with_reducible refine gate_builtin (b := .append) (xs := #[.tmp 16, .tmp 19]) rfl ?_); at_builtin; refine Kd.R_append (Kd.int .i64) (w0 := w) w.heap.size rfl (.tmp 16) (.tmp 19) 27 3 (.int .i64 0) 8 rfl Tryz.underlying27 info3 rfl (by decide) (by omega) u3 x3_1 (wrap64 ((rd t345 x10_1) - 1)) [.int .i64 (wrap64 ((rd t345 x10_1) - 1))] (fun k_ => some k_ ≠ (.slice (some ad348) t345.length co8 : Value).ownBlock) (fun _ => False) rfl rfl ?aP (fun _ hk => hk.elim) ?aF ?aO ?aB ?aS ?aL ?_; (case aP => exact rfl); (case aB => exact hB_); (case aF => exact (fun k_ hk => Kd.fresh' (Kd.R_lt (rr_ HO_8)) k_ hk)); (case aO => exact (rr_ HO_3)); (case aS => exact (bF_ hB_)); (case aL => have := LMc13.out; omega); intro v350 w14 ho hb hg hat; rw [← Ny349.out] at ho; replace HO_8 := A_ (Kd.R_after (ok := (fun _ => True)) (rw_ (Kd.R_mono HO_8.out (fun _ hk => ⟨trivial, hk⟩))) hg hat); replace BK341 := A_ (blk_grown (kk_ BK341) hg (Kd.R_ne HO_3.out BK341.out (by decide))); replace HB := A_ hb; have HO351 := A_ ho; clear HO_3; clear ho hb hg hat))
     go_roundg k1
     case measure => have := HK1.out; omega
     case rel => exact ⟨(y349), (wrap64 (x10_1 + 1)), qc_, H', ⟨by have := HK1.out; omega⟩, ⟨(rr_ HO351)⟩, ⟨(rw_ (Kd.R_mono HO_8.out (fun _ hk => hk.2)))⟩, ⟨(kk_ BK341)⟩, ⟨hB_⟩⟩
    ·rw [if_neg c12] at H
     have c12b0 : decide (1 < (rd t345 x10_1)) = false := oD_ c12
     clear c12
     have H' := A_ H
     clear H
     have p348 : 0 ≤ (x10_1 : Int) := oB_ qe_
     have q348 : x10_1 < (t345.length : Int) := oB_ qe_
     obtain ⟨ad348, e348, hx348_0⟩ := Kd.at_int (Kd.R_reads' HO_8.out).2.2 x10_1 p348 q348
     cases e348
     replace p348 := eq_true p348
     replace q348 := eq_true q348
     go_wp2
     go_roundg k1
     case measure => have := HK1.out; omega
     case rel => exact ⟨(x3_1), (wrap64 (x10_1 + 1)), qc_, H', ⟨by have := HK1.out; omega⟩, ⟨(rr_ HO_3)⟩, ⟨(rr_ HO_8)⟩, ⟨(kk_ BK341)⟩, ⟨hB_⟩⟩
   ·rw [if_neg c9] at H
    have c9b0 := oD_ c9
    clear c9
    obtain rfl := Option.some.inj H
    go_wp2
    go_ret
    exact ⟨_, qb_, (rw_ (Kd.R_mono HO_3.out (fun _ hk => trivial))), hB_⟩
def Z23.l0 : Nat → List Int → List (S38) → List (S38) → Int → Int → Option ((List (S38)))
 | 0, _, _, _, _, _ => none
 | k + 1, x1, x5, x10, x11, x12 => if x12 < x11 then (if 0 ≤ x12 then (if x12 < (x10.length : Int) then ((Z33.f k ((rd_T38 x10 x12).f0) ((rd_T38 x10 x12).f1)).bind fun t726 => ((Z52.f k t726 x1).bind fun t729 => (if t729 = true then (if x5.length < 2932031007402 then (Z23.l0 k x1 (x5 ++ [(⟨(rd_T38 x10 x12).f0, (rd_T38 x10 x12).f1⟩ : S38)]) x10 x11 (wrap64 (x12 + 1))) else (none)) else (Z23.l0 k x1 x5 x10 x11 (wrap64 (x12 + 1)))))) else (none)) else (none)) else (some x5)
def Z23.f (k : Nat) (a0 : Int) (l1 : List Int) : Option ((List (S38))) := (Z15.f k a0).bind fun t721 => (Z23.l0 k l1 (([] : List (S38))) t721 (t721.length : Int) 0)
theorem Z23.mono_l : ∀ k, (∀ y0 y1 y2 y3 y4, LeO (Z23.l0 k y0 y1 y2 y3 y4) (Z23.l0 (k + 1) y0 y1 y2 y3 y4))
 | 0 => fun _ _ _ _ _ r h => by simp [Z23.l0] at h
 | k + 1 => by
  have ih0 := Z23.mono_l k
  ·intro y0 y1 y2 y3 y4
   unfold Z23.l0
   repeat' first|exact ih0 _ _ _ _ _|exact Z52.mono _ _ _|exact Z33.mono _ _ _|exact Z15.mono _ _|exact lo_|refine LeO.ite ?_ ?_|refine LeO.bind ?_ (fun _ => ?_)
theorem Z23.mono : ∀ a0 a1 k, LeO (Z23.f k a0 a1) (Z23.f (k + 1) a0 a1) := by
 intro a0 a1 k
 have ih0 := Z23.mono_l k
 unfold Z23.f
 repeat' first|exact ih0 _ _ _ _ _|exact Z52.mono _ _ _|exact Z33.mono _ _ _|exact Z15.mono _ _|exact lo_|refine LeO.ite ?_ ?_|refine LeO.bind ?_ (fun _ => ?_)
set_option maxHeartbeats 8000000 in
set_option maxRecDepth 100000 in
theorem Z23.calls (k : Nat) (a0 : Int) (A1 : Option Addr) (c1 : Nat) (l1 : List Int) (r : List (S38)) (w : World) (hr1 : Kd.C (Kd.int .i64) w A1 l1.length l1) (hc1 : l1.length ≤ c1) (h : Z23.f k a0 l1 = some r) :
  Calls Tryz.prog 10 #[.int .i64 a0, .slice A1 l1.length c1] w fun e w' => ∃ v0_ : Value, e = .returned (v0_) ∧ Kd.N k38 38 w' w.heap.size (fun k_ => (w.heap.size ≤ k_)) v0_ r ∧ Below w.heap.size w w' := by
 have hu38 := Tryz.underlying38
 have HR1 := A_ hr1
 have HC1 := A_ hc1
 clear hr1 hc1
 have HB := A_ (Below.refl w.heap.size w)
 have H := h
 unfold Z23.f at H
 clear h
 obtain ⟨y718, hy718⟩ : ∃ y_ : List (S38), y_ = (([] : List (S38))) := ⟨_, rfl⟩
 replace H : ((Z15.f k a0).bind fun t721 => (Z23.l0 k l1 y718 t721 (t721.length : Int) 0)) = some r := by first | (rw [hy718]; exact H) | exact H
 have Ny718 := A_ hy718
 clear hy718
 obtain ⟨t721, A3, H⟩ := bi_ H
 have H' := A_ H
 clear H
 go_enter Tryz.func10, Tryz.ntmps10
 go_wp2_with (first | ((with_reducible refine gB_ (N := 8) rfl ?_); refine Kd.N_lit k38 _ 38 ?hg (N' := 8) ?hd (xs := ([] : List (S38))) (inner := []) (ok := (fun k_ => (w.heap.size ≤ k_))) (okp := (fun k_ => (w.heap.size ≤ k_))) ?hr ?hp (fun _ hk => hk) ((show ∀ k_, w.heap.size ≤ k_ → (fun k_ => (w.heap.size ≤ k_)) k_ from fun k_ hk => (Nat.le_trans (bF_ hB_) hk)) _ (nA_ _)) (Below.refl _ _) (nA_ _) (by simp) ?_; (case hd => rfl); (case hg => rfl); (case hr => first | (go_simp; done) | (go_simp; rfl)); (case hp => exact (Reps.none _ _)); intro v719 w4 ho5 hb hg_ hnew_; clear hg_ hnew_; (first | rw [← Ny718.out] at ho5 | (simp only [Int.reduceToNat] at ho5; rw [← Ny718.out] at ho5)); have HO720 := A_ (Kd.N_lower ho5 (bF_ hB_)); replace HB := b1_ hb; clear hb ho5) | ((with_reducible refine gA_ (f := 18) rfl ?_); refine gL_ (some 10) Tryz.func18 #[.int .i64 a0] rfl qa_ ?_; (with_reducible refine (Z15.calls k a0 t721 _ A3.out).mono ?_); rintro e w6 ⟨v722, rfl, ho0, hb⟩; refine ⟨_, rfl, ?_⟩; have HO723 := A_ (Kd.N_lower (Kd.N_mono (ok' := fun k_ => (w.heap.size ≤ k_) ∧ some k_ ≠ (v719 : Value).ownBlock) ho0 (fun k_ hk_ => ⟨(Nat.le_trans (bF_ hB_) hk_), (Kd.fresh' (Kd.N_lt (by (with_reducible repeat (first | apply Kd.N_alloc | apply Kd.N_drewN | apply Kd.N_drew)); exact HO720.out)) k_ hk_)⟩)) (bF_ hB_)); replace HO720 := A_ (Kd.N_elder' (by (with_reducible repeat (first | apply Kd.N_alloc | apply Kd.N_drewN | apply Kd.N_drew)); exact HO720.out) (Kd.N_base ho0) hb); replace HB := b1_ hb; clear hb ho0; obtain ⟨Ao7, co7, eo7⟩ := Kd.N_slice HO723.out; subst eo7))
 go_loopg [5, 12] k (fun kq v5 v12 w' => ∃ (x5_1 : List (S38)) (x12_1 : Int), v12 = .int .i64 x12_1 ∧ Aside0 (Z23.l0 kq l1 x5_1 t721 (t721.length : Int) x12_1 = some r) ∧ Aside0 (kq ≤ k) ∧ Aside0 (Kd.N k38 38 w' w.heap.size (fun k_ => (w.heap.size ≤ k_) ∧ some k_ ≠ ((.slice Ao7 t721.length co7) : Value).ownBlock) v5 x5_1) ∧ Aside0 (Kd.N k38 38 w' w.heap.size (fun k_ => (w.heap.size ≤ k_) ∧ some k_ ≠ (v5 : Value).ownBlock) (.slice Ao7 t721.length co7) t721) ∧ Aside0 (Below w.heap.size w w'))
 case atStart => exact ⟨(y718), (0), qc_, H', ⟨nA_ _⟩, ⟨by (with_reducible repeat (first | apply Kd.N_alloc | apply Kd.N_drewN | apply Kd.N_drew)); exact HO720.out⟩, ⟨by (with_reducible repeat (first | apply Kd.N_alloc | apply Kd.N_drewN | apply Kd.N_drew)); exact HO723.out⟩, ⟨hB_⟩⟩
 case round =>
  clear H'
  obtain ⟨x5_1, x12_1, rfl, HA, HK1, HO_5, HO_10, HB⟩ := hrel
  cases gk with
  | zero => exact absurd HA.out (by simp [Z23.l0])
  | succ k1 =>
   have H := HA.out
   clear HA
   simp only [Z23.l0] at H
   by_cases c8 : x12_1 < (t721.length : Int)
   ·rw [if_pos c8] at H
    have c8b0 := oC_ c8
    clear c8
    have c9 := cp_ H
    replace H := ca_ H
    have c9b0 := oC_ c9
    clear c9
    have c10 := cp_ H
    replace H := ca_ H
    have c10b0 := oC_ c10
    clear c10
    obtain ⟨t726, A11, H⟩ := bi_ H
    obtain ⟨t729, A12, H⟩ := bi_ H
    by_cases c13 : t729 = true
    ·subst c13
     rw [if_pos rfl] at H
     have c14 := cp_ H
     replace H := ca_ H
     have LMc14 := A_ c14
     clear c14
     obtain ⟨y730, hy730⟩ : ∃ y_ : List (S38), y_ = (x5_1 ++ [(⟨(rd_T38 t721 x12_1).f0, (rd_T38 t721 x12_1).f1⟩ : S38)]) := ⟨_, rfl⟩
     replace H : (Z23.l0 k1 l1 y730 t721 (t721.length : Int) (wrap64 (x12_1 + 1))) = some r := by first | (rw [hy730]; exact H) | exact H
     have Ny730 := A_ hy730
     clear hy730
     have H' := A_ H
     clear H
     have p724 : 0 ≤ (x12_1 : Int) := oB_ qe_
     have q724 : x12_1 < (t721.length : Int) := oB_ qe_
     obtain ⟨ad724, A724_0, c724_0, A724_1, c724_1, e724, hx724_0, hx724_1, hl724_0, hi724_0, hl724_1, hi724_1⟩ := at_T38 (Kd.N_reads' HO_10.out).2.2 x12_1 p724 q724
     cases e724
     obtain ⟨ce724, hce724, hMe724, hcc724⟩ := Kd.N_get HO_10.out z38 x12_1 p724 (by first | exact q724 | exact oB_ qe_ | (have e_ := (Kd.N_reads' HO_10.out).1; omega))
     obtain ⟨ua724_0, uc724_0, ua724_1, uc724_1, rfl, ul724_0, ge724_0, ul724_1, ge724_1⟩ := k38_openF hMe724
     have hv724_0 := hcc724 0 _ rfl
     rw [Nat.add_zero] at hv724_0
     replace hv724_0 := Option.some.inj (hv724_0.symm.trans hx724_0)
     injection hv724_0 with hva_ hvn_ hvc_
     rw [hva_] at ge724_0
     rw [hvc_] at ul724_0
     have HL724_0 := A_ (show Kd.V (Kd.int .i64) 3 _ w.heap.size _ _ ((rd_T38 t721 x12_1).f0) from Kd.V_mk ul724_0 ge724_0)
     clear hva_ hvn_ hvc_ ge724_0 ul724_0
     have hv724_1 := hcc724 1 _ rfl
     rw [add_field _ _ 1 (by omega)] at hv724_1
     replace hv724_1 := Option.some.inj (hv724_1.symm.trans hx724_1)
     injection hv724_1 with hva_ hvn_ hvc_
     rw [hva_] at ge724_1
     rw [hvc_] at ul724_1
     have HL724_1 := A_ (show Kd.V (Kd.int .i64) 3 _ w.heap.size _ _ ((rd_T38 t721 x12_1).f1) from Kd.V_mk ul724_1 ge724_1)
     clear hva_ hvn_ hvc_ ge724_1 ul724_1
     clear hcc724 hce724
     have HR724_0 := A_ hi724_0
     have HC724_0 := A_ hl724_0
     clear hi724_0 hl724_0
     have HR724_1 := A_ hi724_1
     have HC724_1 := A_ hl724_1
     clear hi724_1 hl724_1
     replace p724 := eq_true p724
     replace q724 := eq_true q724
     go_wp2_with (first | ((with_reducible refine gB_ (N := 7) rfl ?_); refine bx_ 7 #[.slice none 0 0, .slice none 0 0] 38 ?_; intro gb725 hg w15 hbox hb; replace HO_5 := A_ (Kd.N_below (Kd.N_elderB (by (with_reducible repeat (first | apply Kd.N_alloc | apply Kd.N_drewN | apply Kd.N_drew)); exact HO_5.out) gb725 (Nat.le_of_eq hg.symm)) hb); replace HO_10 := A_ (Kd.N_below (Kd.N_elderB (by (with_reducible repeat (first | apply Kd.N_alloc | apply Kd.N_drewN | apply Kd.N_drew)); exact HO_10.out) gb725 (Nat.le_of_eq hg.symm)) hb); replace HL724_0 := A_ (Kd.V_below (Kd.V_elderB (by (with_reducible repeat (first | apply Kd.V_alloc | apply Kd.V_drewN | apply Kd.V_drew)); exact HL724_0.out) gb725 (Nat.le_of_eq hg.symm)) hb); replace HL724_1 := A_ (Kd.V_below (Kd.V_elderB (by (with_reducible repeat (first | apply Kd.V_alloc | apply Kd.V_drewN | apply Kd.V_drew)); exact HL724_1.out) gb725 (Nat.le_of_eq hg.symm)) hb); replace HR724_0 := A_ (cD_ (by repeat (first | (with_reducible exact HR724_0.out) | (with_reducible refine cA_ ?_ _) | (with_reducible refine cB_ ?_ _) | (with_reducible refine cC_ ?_) | exact HR724_0.out)) hb); replace HR724_1 := A_ (cD_ (by repeat (first | (with_reducible exact HR724_1.out) | (with_reducible refine cA_ ?_ _) | (with_reducible refine cB_ ?_ _) | (with_reducible refine cC_ ?_) | exact HR724_1.out)) hb); have BK725 := A_ hbox; have GW725 := gw_ w hg; have GE725 := GW725; replace HB := b1_ hb; clear hb hbox hg; obtain ⟨hcz16_0, hcz16_1, hfz16_0, hfz16_1⟩ := c2_ BK725) | ((with_reducible refine gA_ (f := 19) rfl ?_); refine gL_ (some 17) Tryz.func19 #[.agg #[.slice A724_0 ((rd_T38 t721 x12_1).f0).length c724_0, .slice A724_1 ((rd_T38 t721 x12_1).f1).length c724_1]] rfl qa_ ?_; (with_reducible refine (Z33.calls k1 _ _ ((rd_T38 t721 x12_1).f0) _ _ ((rd_T38 t721 x12_1).f1) t726 _ ?side1 ?side2 ?side3 ?side4 A11.out).mono ?_); (case side1 => repeat (first | exact ((Kd.V_reads' (by (with_reducible repeat (first | apply Kd.V_alloc | apply Kd.V_drewN | apply Kd.V_drew)); exact (Kd.V_mono (Kd.V_far (p := ⟨gb725, 1, none⟩) (Kd.V_far (p := ⟨gb725, 0, none⟩) (Kd.V_mono HL724_0.out (fun k_ hk => (⟨hk, hk.2⟩ : _ ∧ k_ ≠ gb725))) (fun _ hk => hk.2) (.slice A724_0 ((rd_T38 t721 x12_1).f0).length c724_0)) (fun _ hk => hk.2) (.slice A724_1 ((rd_T38 t721 x12_1).f1).length c724_1)) (fun _ h_ => h_.1)))).2.2) | (with_reducible first | refine cA_ ?_ _ | refine cB_ ?_ _ | refine cC_ ?_))); (case side2 => exact HC724_0.out); (case side3 => repeat (first | exact ((Kd.V_reads' (by (with_reducible repeat (first | apply Kd.V_alloc | apply Kd.V_drewN | apply Kd.V_drew)); exact (Kd.V_mono (Kd.V_far (p := ⟨gb725, 1, none⟩) (Kd.V_far (p := ⟨gb725, 0, none⟩) (Kd.V_mono HL724_1.out (fun k_ hk => (⟨hk, hk.2⟩ : _ ∧ k_ ≠ gb725))) (fun _ hk => hk.2) (.slice A724_0 ((rd_T38 t721 x12_1).f0).length c724_0)) (fun _ hk => hk.2) (.slice A724_1 ((rd_T38 t721 x12_1).f1).length c724_1)) (fun _ h_ => h_.1)))).2.2) | (with_reducible first | refine cA_ ?_ _ | refine cB_ ?_ _ | refine cC_ ?_))); (case side4 => exact HC724_1.out); rintro e w17 ⟨v727, rfl, ho0, hb⟩; refine ⟨_, rfl, ?_⟩; replace HO_5 := A_ (Kd.N_elder' (by (with_reducible repeat (first | apply Kd.N_alloc | apply Kd.N_drewN | apply Kd.N_drew)); exact (Kd.N_mono (Kd.N_far (p := ⟨gb725, 1, none⟩) (Kd.N_far (p := ⟨gb725, 0, none⟩) (Kd.N_mono HO_5.out (fun k_ hk => (⟨hk, hk.2⟩ : _ ∧ k_ ≠ gb725))) (fun _ hk => hk.2) (.slice A724_0 ((rd_T38 t721 x12_1).f0).length c724_0)) (fun _ hk => hk.2) (.slice A724_1 ((rd_T38 t721 x12_1).f1).length c724_1)) (fun _ h_ => h_.1))) (Kd.R_base ho0) hb); replace HO_10 := A_ (Kd.N_elder' (by (with_reducible repeat (first | apply Kd.N_alloc | apply Kd.N_drewN | apply Kd.N_drew)); exact (Kd.N_mono (Kd.N_far (p := ⟨gb725, 1, none⟩) (Kd.N_far (p := ⟨gb725, 0, none⟩) (Kd.N_mono HO_10.out (fun k_ hk => (⟨hk, hk.2⟩ : _ ∧ k_ ≠ gb725))) (fun _ hk => hk.2) (.slice A724_0 ((rd_T38 t721 x12_1).f0).length c724_0)) (fun _ hk => hk.2) (.slice A724_1 ((rd_T38 t721 x12_1).f1).length c724_1)) (fun _ h_ => h_.1))) (Kd.R_base ho0) hb); have HO728 := A_ (rE_ (Kd.R_newM (M := fun k_ => (w.heap.size ≤ k_)) ho0 (bF_ hB_) (fun k_ h_ => h_)) (bF_ hB_)); replace HR724_0 := A_ (cD_ ((Kd.V_reads' (by (with_reducible repeat (first | apply Kd.V_alloc | apply Kd.V_drewN | apply Kd.V_drew)); exact (Kd.V_mono (Kd.V_far (p := ⟨gb725, 1, none⟩) (Kd.V_far (p := ⟨gb725, 0, none⟩) (Kd.V_mono HL724_0.out (fun k_ hk => (⟨hk, hk.2⟩ : _ ∧ k_ ≠ gb725))) (fun _ hk => hk.2) (.slice A724_0 ((rd_T38 t721 x12_1).f0).length c724_0)) (fun _ hk => hk.2) (.slice A724_1 ((rd_T38 t721 x12_1).f1).length c724_1)) (fun _ h_ => h_.1)))).2.2) hb); replace HL724_0 := A_ (Kd.V_elder' (by (with_reducible repeat (first | apply Kd.V_alloc | apply Kd.V_drewN | apply Kd.V_drew)); exact (Kd.V_mono (Kd.V_far (p := ⟨gb725, 1, none⟩) (Kd.V_far (p := ⟨gb725, 0, none⟩) (Kd.V_mono HL724_0.out (fun k_ hk => (⟨hk, hk.2⟩ : _ ∧ k_ ≠ gb725))) (fun _ hk => hk.2) (.slice A724_0 ((rd_T38 t721 x12_1).f0).length c724_0)) (fun _ hk => hk.2) (.slice A724_1 ((rd_T38 t721 x12_1).f1).length c724_1)) (fun _ h_ => h_.1))) (Kd.R_base ho0) hb); replace HR724_1 := A_ (cD_ ((Kd.V_reads' (by (with_reducible repeat (first | apply Kd.V_alloc | apply Kd.V_drewN | apply Kd.V_drew)); exact (Kd.V_mono (Kd.V_far (p := ⟨gb725, 1, none⟩) (Kd.V_far (p := ⟨gb725, 0, none⟩) (Kd.V_mono HL724_1.out (fun k_ hk => (⟨hk, hk.2⟩ : _ ∧ k_ ≠ gb725))) (fun _ hk => hk.2) (.slice A724_0 ((rd_T38 t721 x12_1).f0).length c724_0)) (fun _ hk => hk.2) (.slice A724_1 ((rd_T38 t721 x12_1).f1).length c724_1)) (fun _ h_ => h_.1)))).2.2) hb); replace HL724_1 := A_ (Kd.V_elder' (by (with_reducible repeat (first | apply Kd.V_alloc | apply Kd.V_drewN | apply Kd.V_drew)); exact (Kd.V_mono (Kd.V_far (p := ⟨gb725, 1, none⟩) (Kd.V_far (p := ⟨gb725, 0, none⟩) (Kd.V_mono HL724_1.out (fun k_ hk => (⟨hk, hk.2⟩ : _ ∧ k_ ≠ gb725))) (fun _ hk => hk.2) (.slice A724_0 ((rd_T38 t721 x12_1).f0).length c724_0)) (fun _ hk => hk.2) (.slice A724_1 ((rd_T38 t721 x12_1).f1).length c724_1)) (fun _ h_ => h_.1))) (Kd.R_base ho0) hb); replace BK725 := A_ (kE_ (g := gb725) (o := .cells #[.slice A724_0 ((rd_T38 t721 x12_1).f0).length c724_0, .slice A724_1 ((rd_T38 t721 x12_1).f1).length c724_1] 38 (0, 0)) qp_ hb); replace HB := b1_ hb; clear hb ho0; obtain ⟨Ao18, co18, eo18⟩ := Kd.R_slice HO728.out; subst eo18) | ((with_reducible refine gA_ (f := 21) rfl ?_); refine gL_ (some 19) Tryz.func21 #[.slice Ao18 t726.length co18, .slice A1 l1.length c1] rfl qa_ ?_; (with_reducible refine (Z52.calls k1 _ _ t726 _ _ l1 true _ (cr_ HO728) ((Kd.R_reads' HO728.out).2.1) (cb_ HR1) HC1.out A12.out).mono ?_); rintro e w' ⟨rfl, ⟨nd, rfl⟩⟩; refine ⟨_, rfl, ?_⟩; have hcz19_0 : w17.cell? ⟨gb725, 0, none⟩ = some (.slice A724_0 ((rd_T38 t721 x12_1).f0).length c724_0) := cz0_ BK725; have hcz19_1 : w17.cell? ⟨gb725, 1, none⟩ = some (.slice A724_1 ((rd_T38 t721 x12_1).f1).length c724_1) := cz1_ BK725; have hfz19_0 := kD_ BK725.out 0; have hfz19_1 := kD_ BK725.out 1) | ((with_reducible refine gate_builtin (b := .append) (xs := #[.tmp 20, .tmp 22]) rfl ?_); at_builtin; refine Kd.N_append k38 (w0 := w) w.heap.size rfl (.tmp 20) (.tmp 22) 28 38 (.agg #[(.slice none 0 0), (.slice none 0 0)]) 48 rfl Tryz.underlying28 info38 rfl (by decide) (by omega) u5 x5_1 (⟨(rd_T38 t721 x12_1).f0, (rd_T38 t721 x12_1).f1⟩ : S38) [.slice A724_0 ((rd_T38 t721 x12_1).f0).length c724_0, .slice A724_1 ((rd_T38 t721 x12_1).f1).length c724_1] (fun k_ => (w.heap.size ≤ k_) ∧ some k_ ≠ (.slice (some ad724) t721.length co7 : Value).ownBlock ∧ some k_ ≠ (.slice Ao18 t726.length co18 : Value).ownBlock ∧ k_ ≠ gb725) (fun k_ => ((fun k_ => (w.heap.size ≤ k_) ∧ some k_ ≠ (.slice (some ad724) t721.length co7 : Value).ownBlock ∧ some k_ ≠ (.slice Ao18 t726.length co18 : Value).ownBlock ∧ k_ ≠ gb725)) k_ ∧ some k_ ≠ (u5 : Value).ownBlock) rfl rfl ?aP (fun _ hk => hk) ?aF ?aO ?aB ?aS ?aL ?_; (case aP => exact (k38_mkF _ _ (⟨(rd_T38 t721 x12_1).f0, (rd_T38 t721 x12_1).f1⟩ : S38) (Kd.V_reads' (Kd.V_mono (ok' := (fun k_ => ((fun k_ => (w.heap.size ≤ k_) ∧ some k_ ≠ (.slice (some ad724) t721.length co7 : Value).ownBlock ∧ some k_ ≠ (.slice Ao18 t726.length co18 : Value).ownBlock ∧ k_ ≠ gb725)) k_ ∧ some k_ ≠ (u5 : Value).ownBlock)) (HL724_0.out) (fun k_ hk => ⟨⟨hk.1.1.1.1, ⟨hk.1.1.2, ⟨hk.2, hk.1.2⟩⟩⟩, hk.1.1.1.2⟩))).2.1 (Kd.V_F (Kd.V_mono (ok' := (fun k_ => ((fun k_ => (w.heap.size ≤ k_) ∧ some k_ ≠ (.slice (some ad724) t721.length co7 : Value).ownBlock ∧ some k_ ≠ (.slice Ao18 t726.length co18 : Value).ownBlock ∧ k_ ≠ gb725)) k_ ∧ some k_ ≠ (u5 : Value).ownBlock)) (HL724_0.out) (fun k_ hk => ⟨⟨hk.1.1.1.1, ⟨hk.1.1.2, ⟨hk.2, hk.1.2⟩⟩⟩, hk.1.1.1.2⟩))) (Kd.V_reads' (Kd.V_mono (ok' := (fun k_ => ((fun k_ => (w.heap.size ≤ k_) ∧ some k_ ≠ (.slice (some ad724) t721.length co7 : Value).ownBlock ∧ some k_ ≠ (.slice Ao18 t726.length co18 : Value).ownBlock ∧ k_ ≠ gb725)) k_ ∧ some k_ ≠ (u5 : Value).ownBlock)) (HL724_1.out) (fun k_ hk => ⟨⟨hk.1.1.1.1, ⟨hk.1.1.2, ⟨hk.2, hk.1.2⟩⟩⟩, hk.1.1.1.2⟩))).2.1 (Kd.V_F (Kd.V_mono (ok' := (fun k_ => ((fun k_ => (w.heap.size ≤ k_) ∧ some k_ ≠ (.slice (some ad724) t721.length co7 : Value).ownBlock ∧ some k_ ≠ (.slice Ao18 t726.length co18 : Value).ownBlock ∧ k_ ≠ gb725)) k_ ∧ some k_ ≠ (u5 : Value).ownBlock)) (HL724_1.out) (fun k_ hk => ⟨⟨hk.1.1.1.1, ⟨hk.1.1.2, ⟨hk.2, hk.1.2⟩⟩⟩, hk.1.1.1.2⟩))))); (case aB => exact hB_); (case aF => exact (fun k_ hk => ⟨(Nat.le_trans (bF_ hB_) hk), Kd.fresh' (Kd.N_lt (by (with_reducible repeat (first | apply Kd.N_alloc | apply Kd.N_drewN | apply Kd.N_drew)); exact HO_10.out)) k_ hk, Kd.fresh' (Kd.R_lt (rr_ HO728)) k_ hk, Kd.freshB (kk_ BK725) k_ hk⟩)); (case aO => exact (by (with_reducible repeat (first | apply Kd.N_alloc | apply Kd.N_drewN | apply Kd.N_drew)); exact Kd.N_mono HO_5.out (fun _ hk => ⟨hk.1.1.1, ⟨hk.1.1.2, ⟨hk.2, hk.1.2⟩⟩⟩))); (case aS => exact (bF_ hB_)); (case aL => have := LMc14.out; omega); intro v731 w20 ho hb hg hat; rw [← Ny730.out] at ho; replace HO_10 := A_ (Kd.N_afterv (ok := (fun k_ => (w.heap.size ≤ k_) ∧ some k_ ≠ (.slice Ao18 t726.length co18 : Value).ownBlock ∧ k_ ≠ gb725)) (by (with_reducible repeat (first | apply Kd.N_alloc | apply Kd.N_drewN | apply Kd.N_drew)); exact Kd.N_mono HO_10.out (fun _ hk => ⟨⟨hk.1.1.1, ⟨hk.2, hk.1.2⟩⟩, hk.1.1.2⟩)) hg hat); replace HL724_0 := A_ (Kd.V_afterv (ok := (fun k_ => (w.heap.size ≤ k_) ∧ some k_ ≠ (.slice (some ad724) t721.length co7 : Value).ownBlock ∧ some k_ ≠ (.slice Ao18 t726.length co18 : Value).ownBlock ∧ k_ ≠ gb725)) (by (with_reducible repeat (first | apply Kd.V_alloc | apply Kd.V_drewN | apply Kd.V_drew)); exact Kd.V_mono HL724_0.out (fun _ hk => ⟨⟨hk.1.1.1.1, ⟨hk.1.1.2, ⟨hk.2, hk.1.2⟩⟩⟩, hk.1.1.1.2⟩)) hg hat); replace HL724_1 := A_ (Kd.V_afterv (ok := (fun k_ => (w.heap.size ≤ k_) ∧ some k_ ≠ (.slice (some ad724) t721.length co7 : Value).ownBlock ∧ some k_ ≠ (.slice Ao18 t726.length co18 : Value).ownBlock ∧ k_ ≠ gb725)) (by (with_reducible repeat (first | apply Kd.V_alloc | apply Kd.V_drewN | apply Kd.V_drew)); exact Kd.V_mono HL724_1.out (fun _ hk => ⟨⟨hk.1.1.1.1, ⟨hk.1.1.2, ⟨hk.2, hk.1.2⟩⟩⟩, hk.1.1.1.2⟩)) hg hat); replace BK725 := A_ (blk_grown (kk_ BK725) hg (Kd.N_away HO_5.out (fun _ hk => hk.1.2))); replace HO728 := A_ (Kd.R_over' (rr_ HO728) (Kd.N_typed (by (with_reducible repeat (first | apply Kd.N_alloc | apply Kd.N_drewN | apply Kd.N_drew)); exact HO_5.out)) (by decide) hg); replace HB := A_ hb; have HO732 := A_ ho; clear HO_5; clear ho hb hg hat))
     go_roundg k1
     case measure => have := HK1.out; omega
     case rel => exact ⟨(y730), (wrap64 (x12_1 + 1)), qc_, H', ⟨by have := HK1.out; omega⟩, ⟨by (with_reducible repeat (first | apply Kd.N_alloc | apply Kd.N_drewN | apply Kd.N_drew)); exact Kd.N_mono HO732.out (fun _ hk => ⟨hk.1, hk.2.1⟩)⟩, ⟨by (with_reducible repeat (first | apply Kd.N_alloc | apply Kd.N_drewN | apply Kd.N_drew)); exact Kd.N_mono HO_10.out (fun _ hk => ⟨hk.1.1, hk.2⟩)⟩, ⟨hB_⟩⟩
    ·replace c13 := Bool.eq_false_iff.mpr c13
     subst c13
     have H1 : (Z23.l0 k1 l1 x5_1 t721 (t721.length : Int) (wrap64 (x12_1 + 1))) = some r := by rw [if_neg (show ¬ (false = true) by decide)] at H; exact H
     clear H
     have H := H1
     clear H1
     have H' := A_ H
     clear H
     have p724 : 0 ≤ (x12_1 : Int) := oB_ qe_
     have q724 : x12_1 < (t721.length : Int) := oB_ qe_
     obtain ⟨ad724, A724_0, c724_0, A724_1, c724_1, e724, hx724_0, hx724_1, hl724_0, hi724_0, hl724_1, hi724_1⟩ := at_T38 (Kd.N_reads' HO_10.out).2.2 x12_1 p724 q724
     cases e724
     obtain ⟨ce724, hce724, hMe724, hcc724⟩ := Kd.N_get HO_10.out z38 x12_1 p724 (by first | exact q724 | exact oB_ qe_ | (have e_ := (Kd.N_reads' HO_10.out).1; omega))
     obtain ⟨ua724_0, uc724_0, ua724_1, uc724_1, rfl, ul724_0, ge724_0, ul724_1, ge724_1⟩ := k38_openF hMe724
     have hv724_0 := hcc724 0 _ rfl
     rw [Nat.add_zero] at hv724_0
     replace hv724_0 := Option.some.inj (hv724_0.symm.trans hx724_0)
     injection hv724_0 with hva_ hvn_ hvc_
     rw [hva_] at ge724_0
     rw [hvc_] at ul724_0
     have HL724_0 := A_ (show Kd.V (Kd.int .i64) 3 _ w.heap.size _ _ ((rd_T38 t721 x12_1).f0) from Kd.V_mk ul724_0 ge724_0)
     clear hva_ hvn_ hvc_ ge724_0 ul724_0
     have hv724_1 := hcc724 1 _ rfl
     rw [add_field _ _ 1 (by omega)] at hv724_1
     replace hv724_1 := Option.some.inj (hv724_1.symm.trans hx724_1)
     injection hv724_1 with hva_ hvn_ hvc_
     rw [hva_] at ge724_1
     rw [hvc_] at ul724_1
     have HL724_1 := A_ (show Kd.V (Kd.int .i64) 3 _ w.heap.size _ _ ((rd_T38 t721 x12_1).f1) from Kd.V_mk ul724_1 ge724_1)
     clear hva_ hvn_ hvc_ ge724_1 ul724_1
     clear hcc724 hce724
     have HR724_0 := A_ hi724_0
     have HC724_0 := A_ hl724_0
     clear hi724_0 hl724_0
     have HR724_1 := A_ hi724_1
     have HC724_1 := A_ hl724_1
     clear hi724_1 hl724_1
     replace p724 := eq_true p724
     replace q724 := eq_true q724
     go_wp2_with (first | ((with_reducible refine gB_ (N := 7) rfl ?_); refine bx_ 7 #[.slice none 0 0, .slice none 0 0] 38 ?_; intro gb725 hg w21 hbox hb; replace HO_5 := A_ (Kd.N_below (Kd.N_elderB (by (with_reducible repeat (first | apply Kd.N_alloc | apply Kd.N_drewN | apply Kd.N_drew)); exact HO_5.out) gb725 (Nat.le_of_eq hg.symm)) hb); replace HO_10 := A_ (Kd.N_below (Kd.N_elderB (by (with_reducible repeat (first | apply Kd.N_alloc | apply Kd.N_drewN | apply Kd.N_drew)); exact HO_10.out) gb725 (Nat.le_of_eq hg.symm)) hb); replace HL724_0 := A_ (Kd.V_below (Kd.V_elderB (by (with_reducible repeat (first | apply Kd.V_alloc | apply Kd.V_drewN | apply Kd.V_drew)); exact HL724_0.out) gb725 (Nat.le_of_eq hg.symm)) hb); replace HL724_1 := A_ (Kd.V_below (Kd.V_elderB (by (with_reducible repeat (first | apply Kd.V_alloc | apply Kd.V_drewN | apply Kd.V_drew)); exact HL724_1.out) gb725 (Nat.le_of_eq hg.symm)) hb); replace HR724_0 := A_ (cD_ (by repeat (first | (with_reducible exact HR724_0.out) | (with_reducible refine cA_ ?_ _) | (with_reducible refine cB_ ?_ _) | (with_reducible refine cC_ ?_) | exact HR724_0.out)) hb); replace HR724_1 := A_ (cD_ (by repeat (first | (with_reducible exact HR724_1.out) | (with_reducible refine cA_ ?_ _) | (with_reducible refine cB_ ?_ _) | (with_reducible refine cC_ ?_) | exact HR724_1.out)) hb); have BK725 := A_ hbox; have GW725 := gw_ w hg; have GE725 := GW725; replace HB := b1_ hb; clear hb hbox hg; obtain ⟨hcz22_0, hcz22_1, hfz22_0, hfz22_1⟩ := c2_ BK725) | ((with_reducible refine gA_ (f := 19) rfl ?_); refine gL_ (some 17) Tryz.func19 #[.agg #[.slice A724_0 ((rd_T38 t721 x12_1).f0).length c724_0, .slice A724_1 ((rd_T38 t721 x12_1).f1).length c724_1]] rfl qa_ ?_; (with_reducible refine (Z33.calls k1 _ _ ((rd_T38 t721 x12_1).f0) _ _ ((rd_T38 t721 x12_1).f1) t726 _ ?side1 ?side2 ?side3 ?side4 A11.out).mono ?_); (case side1 => repeat (first | exact ((Kd.V_reads' (by (with_reducible repeat (first | apply Kd.V_alloc | apply Kd.V_drewN | apply Kd.V_drew)); exact (Kd.V_mono (Kd.V_far (p := ⟨gb725, 1, none⟩) (Kd.V_far (p := ⟨gb725, 0, none⟩) (Kd.V_mono HL724_0.out (fun k_ hk => (⟨hk, hk.2⟩ : _ ∧ k_ ≠ gb725))) (fun _ hk => hk.2) (.slice A724_0 ((rd_T38 t721 x12_1).f0).length c724_0)) (fun _ hk => hk.2) (.slice A724_1 ((rd_T38 t721 x12_1).f1).length c724_1)) (fun _ h_ => h_.1)))).2.2) | (with_reducible first | refine cA_ ?_ _ | refine cB_ ?_ _ | refine cC_ ?_))); (case side2 => exact HC724_0.out); (case side3 => repeat (first | exact ((Kd.V_reads' (by (with_reducible repeat (first | apply Kd.V_alloc | apply Kd.V_drewN | apply Kd.V_drew)); exact (Kd.V_mono (Kd.V_far (p := ⟨gb725, 1, none⟩) (Kd.V_far (p := ⟨gb725, 0, none⟩) (Kd.V_mono HL724_1.out (fun k_ hk => (⟨hk, hk.2⟩ : _ ∧ k_ ≠ gb725))) (fun _ hk => hk.2) (.slice A724_0 ((rd_T38 t721 x12_1).f0).length c724_0)) (fun _ hk => hk.2) (.slice A724_1 ((rd_T38 t721 x12_1).f1).length c724_1)) (fun _ h_ => h_.1)))).2.2) | (with_reducible first | refine cA_ ?_ _ | refine cB_ ?_ _ | refine cC_ ?_))); (case side4 => exact HC724_1.out); rintro e w23 ⟨v727, rfl, ho0, hb⟩; refine ⟨_, rfl, ?_⟩; replace HO_5 := A_ (Kd.N_elder' (by (with_reducible repeat (first | apply Kd.N_alloc | apply Kd.N_drewN | apply Kd.N_drew)); exact (Kd.N_mono (Kd.N_far (p := ⟨gb725, 1, none⟩) (Kd.N_far (p := ⟨gb725, 0, none⟩) (Kd.N_mono HO_5.out (fun k_ hk => (⟨hk, hk.2⟩ : _ ∧ k_ ≠ gb725))) (fun _ hk => hk.2) (.slice A724_0 ((rd_T38 t721 x12_1).f0).length c724_0)) (fun _ hk => hk.2) (.slice A724_1 ((rd_T38 t721 x12_1).f1).length c724_1)) (fun _ h_ => h_.1))) (Kd.R_base ho0) hb); replace HO_10 := A_ (Kd.N_elder' (by (with_reducible repeat (first | apply Kd.N_alloc | apply Kd.N_drewN | apply Kd.N_drew)); exact (Kd.N_mono (Kd.N_far (p := ⟨gb725, 1, none⟩) (Kd.N_far (p := ⟨gb725, 0, none⟩) (Kd.N_mono HO_10.out (fun k_ hk => (⟨hk, hk.2⟩ : _ ∧ k_ ≠ gb725))) (fun _ hk => hk.2) (.slice A724_0 ((rd_T38 t721 x12_1).f0).length c724_0)) (fun _ hk => hk.2) (.slice A724_1 ((rd_T38 t721 x12_1).f1).length c724_1)) (fun _ h_ => h_.1))) (Kd.R_base ho0) hb); have HO728 := A_ (rE_ (Kd.R_newM (M := fun k_ => (w.heap.size ≤ k_)) ho0 (bF_ hB_) (fun k_ h_ => h_)) (bF_ hB_)); replace HR724_0 := A_ (cD_ ((Kd.V_reads' (by (with_reducible repeat (first | apply Kd.V_alloc | apply Kd.V_drewN | apply Kd.V_drew)); exact (Kd.V_mono (Kd.V_far (p := ⟨gb725, 1, none⟩) (Kd.V_far (p := ⟨gb725, 0, none⟩) (Kd.V_mono HL724_0.out (fun k_ hk => (⟨hk, hk.2⟩ : _ ∧ k_ ≠ gb725))) (fun _ hk => hk.2) (.slice A724_0 ((rd_T38 t721 x12_1).f0).length c724_0)) (fun _ hk => hk.2) (.slice A724_1 ((rd_T38 t721 x12_1).f1).length c724_1)) (fun _ h_ => h_.1)))).2.2) hb); replace HL724_0 := A_ (Kd.V_elder' (by (with_reducible repeat (first | apply Kd.V_alloc | apply Kd.V_drewN | apply Kd.V_drew)); exact (Kd.V_mono (Kd.V_far (p := ⟨gb725, 1, none⟩) (Kd.V_far (p := ⟨gb725, 0, none⟩) (Kd.V_mono HL724_0.out (fun k_ hk => (⟨hk, hk.2⟩ : _ ∧ k_ ≠ gb725))) (fun _ hk => hk.2) (.slice A724_0 ((rd_T38 t721 x12_1).f0).length c724_0)) (fun _ hk => hk.2) (.slice A724_1 ((rd_T38 t721 x12_1).f1).length c724_1)) (fun _ h_ => h_.1))) (Kd.R_base ho0) hb); replace HR724_1 := A_ (cD_ ((Kd.V_reads' (by (with_reducible repeat (first | apply Kd.V_alloc | apply Kd.V_drewN | apply Kd.V_drew)); exact (Kd.V_mono (Kd.V_far (p := ⟨gb725, 1, none⟩) (Kd.V_far (p := ⟨gb725, 0, none⟩) (Kd.V_mono HL724_1.out (fun k_ hk => (⟨hk, hk.2⟩ : _ ∧ k_ ≠ gb725))) (fun _ hk => hk.2) (.slice A724_0 ((rd_T38 t721 x12_1).f0).length c724_0)) (fun _ hk => hk.2) (.slice A724_1 ((rd_T38 t721 x12_1).f1).length c724_1)) (fun _ h_ => h_.1)))).2.2) hb); replace HL724_1 := A_ (Kd.V_elder' (by (with_reducible repeat (first | apply Kd.V_alloc | apply Kd.V_drewN | apply Kd.V_drew)); exact (Kd.V_mono (Kd.V_far (p := ⟨gb725, 1, none⟩) (Kd.V_far (p := ⟨gb725, 0, none⟩) (Kd.V_mono HL724_1.out (fun k_ hk => (⟨hk, hk.2⟩ : _ ∧ k_ ≠ gb725))) (fun _ hk => hk.2) (.slice A724_0 ((rd_T38 t721 x12_1).f0).length c724_0)) (fun _ hk => hk.2) (.slice A724_1 ((rd_T38 t721 x12_1).f1).length c724_1)) (fun _ h_ => h_.1))) (Kd.R_base ho0) hb); replace BK725 := A_ (kE_ (g := gb725) (o := .cells #[.slice A724_0 ((rd_T38 t721 x12_1).f0).length c724_0, .slice A724_1 ((rd_T38 t721 x12_1).f1).length c724_1] 38 (0, 0)) qp_ hb); replace HB := b1_ hb; clear hb ho0; obtain ⟨Ao24, co24, eo24⟩ := Kd.R_slice HO728.out; subst eo24) | ((with_reducible refine gA_ (f := 21) rfl ?_); refine gL_ (some 19) Tryz.func21 #[.slice Ao24 t726.length co24, .slice A1 l1.length c1] rfl qa_ ?_; (with_reducible refine (Z52.calls k1 _ _ t726 _ _ l1 false _ (cr_ HO728) ((Kd.R_reads' HO728.out).2.1) (cb_ HR1) HC1.out A12.out).mono ?_); rintro e w' ⟨rfl, ⟨nd, rfl⟩⟩; refine ⟨_, rfl, ?_⟩))
     go_roundg k1
     case measure => have := HK1.out; omega
     case rel => exact ⟨(x5_1), (wrap64 (x12_1 + 1)), qc_, H', ⟨by have := HK1.out; omega⟩, ⟨by (with_reducible repeat (first | apply Kd.N_alloc | apply Kd.N_drewN | apply Kd.N_drew)); exact Kd.N_mono HO_5.out (fun _ hk => ⟨hk.1.1.1, hk.1.1.2⟩)⟩, ⟨by (with_reducible repeat (first | apply Kd.N_alloc | apply Kd.N_drewN | apply Kd.N_drew)); exact Kd.N_mono HO_10.out (fun _ hk => ⟨hk.1.1.1, hk.1.1.2⟩)⟩, ⟨hB_⟩⟩
   ·rw [if_neg c8] at H
    have c8b0 := oD_ c8
    clear c8
    obtain rfl := Option.some.inj H
    go_wp2
    go_ret
    exact ⟨_, qb_, by (with_reducible repeat (first | apply Kd.N_alloc | apply Kd.N_drewN | apply Kd.N_drew)); exact Kd.N_mono HO_5.out (fun _ hk => hk.1), hB_⟩
def Z63.l0 : Nat → List Int → List Int → Int → Option (List Int)
 | 0, _, _, _ => none
 | k + 1, x0, x3, x4 => if x4 < (x0.length : Int) then (if 0 ≤ x4 then (if x4 < (x3.length : Int) then (Z63.l0 k x0 (x3.set (x4 : Int).toNat (rd x0 x4)) (wrap64 (x4 + 1))) else (none)) else (none)) else (some x3)
def Z63.f (k : Nat) (l0 : List Int) : Option (List Int) := if 0 ≤ (l0.length : Int) then (if ((l0.length : Int) : Int).toNat ≤ 35184372088832 then (Z63.l0 k l0 (List.replicate ((l0.length : Int) : Int).toNat 0) 0) else (none)) else (none)
theorem Z63.mono_l : ∀ k, (∀ y0 y1 y2, LeO (Z63.l0 k y0 y1 y2) (Z63.l0 (k + 1) y0 y1 y2))
 | 0 => fun _ _ _ r h => by simp [Z63.l0] at h
 | k + 1 => by
  have ih0 := Z63.mono_l k
  ·intro y0 y1 y2
   unfold Z63.l0
   repeat' first|exact ih0 _ _ _|exact lo_|refine LeO.ite ?_ ?_|refine LeO.bind ?_ (fun _ => ?_)
theorem Z63.mono : ∀ a0 k, LeO (Z63.f k a0) (Z63.f (k + 1) a0) := by
 intro a0 k
 have ih0 := Z63.mono_l k
 unfold Z63.f
 repeat' first|exact ih0 _ _ _|exact lo_|refine LeO.ite ?_ ?_|refine LeO.bind ?_ (fun _ => ?_)
set_option maxHeartbeats 8000000 in
set_option maxRecDepth 100000 in
theorem Z63.calls (k : Nat) (A0 : Option Addr) (c0 : Nat) (l0 : List Int) (r : List Int) (w : World) (hr0 : Kd.C (Kd.int .i64) w A0 l0.length l0) (hc0 : l0.length ≤ c0) (h : Z63.f k l0 = some r) :
  Calls Tryz.prog 11 #[.slice A0 l0.length c0] w fun e w' => ∃ v0_ : Value, e = .returned (v0_) ∧ Kd.R (Kd.int .i64) 3 w' w.heap.size (fun _ => True) v0_ r ∧ Below w.heap.size w w' := by
 have HR0 := A_ hr0
 have HC0 := A_ hc0
 clear hr0 hc0
 have HB := A_ (Below.refl w.heap.size w)
 have H := h
 unfold Z63.f at H
 clear h
 have c2 := cp_ H
 replace H := ca_ H
 have c2b0 := eq_true c2
 have c2b1 := oC_ c2
 clear c2
 have c3 := cp_ H
 replace H := ca_ H
 have c3b0 := eq_true c3
 have c3b1 := oC_ c3
 clear c3
 obtain ⟨y733, hy733⟩ : ∃ y_ : List Int, y_ = (List.replicate ((l0.length : Int) : Int).toNat 0) := ⟨_, rfl⟩
 replace H : (Z63.l0 k l0 y733 0) = some r := by first | (rw [hy733]; exact H) | exact H
 have Ny733 := A_ hy733
 clear hy733
 have H' := A_ H
 clear H
 go_enter Tryz.func11, Tryz.ntmps11
 go_wp2_with (first | ((with_reducible refine gB_ (N := 7) rfl ?_); refine Kd.R_make (Kd.int .i64) _ 3 rfl (N := 7) rfl 27 _ _ rfl (l0.length : Int) rfl rfl Tryz.underlying27 (.int .i64 0) 8 info3 rfl (by decide) (by omega) 0 (ok := fun _ => True) (okp := fun _ => True) rfl (fun _ hk => hk) trivial (oB_ qe_) (Nat.le_trans (Nat.mul_le_mul_right _ (oB_ qe_ : (l0.length : Int).toNat ≤ 35184372088832)) (by omega)) (Below.refl _ _) (nA_ _) ?_; intro v734 w4 ho5 hb hg_ hnew_; clear hg_ hnew_; (first | rw [← Ny733.out] at ho5 | (simp only [Int.reduceToNat] at ho5; rw [← Ny733.out] at ho5)); have HO735 := rl_ w ho5; replace HB := b1_ hb; clear hb ho5))
 go_loopg [4] k (fun kq v4 w' => ∃ (x3_1 : List Int) (x4_1 : Int), v4 = .int .i64 x4_1 ∧ Aside0 (Z63.l0 kq l0 x3_1 x4_1 = some r) ∧ Aside0 (kq ≤ k) ∧ Aside0 (Kd.R (Kd.int .i64) 3 w' w.heap.size (fun _ => True) v734 x3_1) ∧ Aside0 (Below w.heap.size w w'))
 case atStart => exact ⟨(y733), (0), qc_, H', ⟨nA_ _⟩, ⟨(rr_ HO735)⟩, ⟨hB_⟩⟩
 case round =>
  clear H'
  obtain ⟨x3_1, x4_1, rfl, HA, HK1, HO_3, HB⟩ := hrel
  cases gk with
  | zero => exact absurd HA.out (by simp [Z63.l0])
  | succ k1 =>
   have H := HA.out
   clear HA
   simp only [Z63.l0] at H
   by_cases c6 : x4_1 < (l0.length : Int)
   ·rw [if_pos c6] at H
    have c6b0 := oC_ c6
    clear c6
    have c7 := cp_ H
    replace H := ca_ H
    have c7b0 := oC_ c7
    clear c7
    have c8 := cp_ H
    replace H := ca_ H
    have c8b0 := oC_ c8
    clear c8
    obtain ⟨y737, hy737⟩ : ∃ y_ : List Int, y_ = (x3_1.set (x4_1 : Int).toNat (rd l0 x4_1)) := ⟨_, rfl⟩
    replace H : (Z63.l0 k1 l0 y737 (wrap64 (x4_1 + 1))) = some r := by first | (rw [hy737]; exact H) | exact H
    have Ny737 := A_ hy737
    clear hy737
    have H' := A_ H
    clear H
    have p736 : 0 ≤ (x4_1 : Int) := oB_ qe_
    have q736 : x4_1 < (l0.length : Int) := oB_ qe_
    obtain ⟨ad736, e736, hx736_0⟩ := Kd.at_int HR0.out x4_1 p736 q736
    cases e736
    replace hx736_0 := (HB.out.cell (World.block_lt_of_cell? w _ hx736_0)).trans hx736_0
    replace p736 := eq_true p736
    replace q736 := eq_true q736
    have p9 : 0 ≤ (x4_1 : Int) := oB_ qe_
    have q9 : (x4_1 : Int) < ((x3_1.length : Int) : Int) := oB_ qe_
    obtain ⟨go9, co9, eo9, gb9, gl9, cl9, HG9⟩ := Kd.R_form HO_3.out (by omega)
    (first | cases eo9 | (injection eo9 with ea_ en_ ec_; (first | subst ea_ | (injection ea_ with ea_; subst ea_)); subst ec_; clear en_))
    have GB9 := A_ gb9
    have GG9 := A_ HG9
    clear gb9 gl9 HG9
    obtain ⟨hx9_0, hf9_0⟩ := Kd.R_celln 0 HO_3.out (x4_1 : Int) p9 q9
    replace p9 := eq_true p9
    replace q9 := eq_true q9
    have HP10 := Kd.R_putg HO_3.out (x4_1 : Int) (rd l0 x4_1)
    go_wp2_with (first | ((with_reducible refine gate_store (t := 3) (p := 20) rfl ?_); refine store_event (t := 3) (p := 20) (v := ?vo_w11) (w1 := (wr.setCell ⟨go9, (x4_1 : Int).toNat, none⟩ (.int .i64 (rd l0 x4_1)))) ?hg ?ho ?hn ?hr ?_; (case ho => rfl); (case hg => rfl); (case hn => rfl); (case hr => first | (go_simp; done) | (go_simp; rfl)); intro w11 hw; have hg : wr.grownBy w11 (some go9) := (by rw [hw]; exact HP10.2); have hp_ : Kd.R (Kd.int .i64) 3 w11 w.heap.size (fun _ => True) (.slice (some ⟨go9, 0, none⟩) x3_1.length co9) y737 := (by rw [hw, Ny737.out]; exact HP10.1); clear HP10; replace HO_3 := A_ (hp_); replace HB := A_ ((by rw [hw]; exact bD_ (HB.out) GB9.out : Below w.heap.size w w11)); clear hg hw hp_))
    go_roundg k1
    case measure => have := HK1.out; omega
    case rel => exact ⟨(y737), (wrap64 (x4_1 + 1)), qc_, H', ⟨by have := HK1.out; omega⟩, ⟨(rr_ HO_3)⟩, ⟨hB_⟩⟩
   ·rw [if_neg c6] at H
    have c6b0 := oD_ c6
    clear c6
    obtain rfl := Option.some.inj H
    go_wp2
    go_ret
    exact ⟨_, qb_, (rr_ HO_3), hB_⟩
end Go.Proofs.YtoijcallajegfaaGreat.A
end
section
/- Sorting a row of the call's own: what slices.SortFunc leaves. No conditions. -/
namespace Go.Proofs.YtoijcallajegfaaGreat.M
set_option linter.unusedVariables false
set_option linter.unusedSimpArgs false
open Go Go.RowKit Go.Proofs.YtoijcallajegfaaGreatW.PrintWords.Kd Go.Proofs.YtoijcallajegfaaGreatW.PrintWords Go.Proofs.YtoijcallajegfaaGreatW.PrintLast Go.Proofs.YtoijcallajegfaaGreatW.PrintMore Go.Shelf Go.Lib Go.Sort Go.Proofs
structure Cel {α : Type} (d : Kd α) (Q : α → Prop) (w : World) (base : Nat) (ok : Nat → Prop) where
 x : α
 c : List Value
 h : d.M w base ok x c
 q : Q x
section
variable {α : Type} {d : Kd α} {Q : α → Prop} {w W : World} {ok : Nat → Prop} {e base g cap : Nat} {v : Value} {xs : List α}
theorem Cel.len (z : Cel d Q w base ok) : z.c.length = d.sz := d.K_len (d.K_of_M z.h)
theorem Cel.one (z : Cel d Q w base ok) : ∀ u ∈ z.c, u.oneCell' = true := d.K_one (d.K_of_M z.h)
theorem Cel.move (z : Cel d Q w base ok) (hm : ∀ k, ok k → k < w.heap.size → W.heap[k]? = w.heap[k]?) : d.M W base ok z.x z.c :=
 d.M_mono (fun _ hk => hk.1) (d.M_move (fun k hk => hm k hk.1 hk.2.2.1) (d.M_bound z.h))
theorem cels_of : ∀ (xs : List α) (rows : List (List Value)), rows.length = xs.length → (∀ x ∈ xs, Q x) → (∀ (j : Nat) (x : α) (c : List Value), xs[j]? = some x → rows[j]? = some c → d.M w base ok x c) →
  ∃ l : List (Cel d Q w base ok), l.map (·.x) = xs ∧ l.map (·.c) = rows
 | [], [], _, _, _ => ⟨[], rfl, rfl⟩
 | [], _ :: _, h, _, _ => by simp at h
 | _ :: _, [], h, _, _ => by simp at h
 | x :: xs, c :: rows, h, hq, hf => by
  obtain ⟨l, h1, h2⟩ := cels_of xs rows (by simpa using h) (fun y hy => hq y (List.mem_cons_of_mem _ hy)) (fun j y c' hy hc => hf (j + 1) y c' (by simpa using hy) (by simpa using hc))
  exact ⟨⟨x, c, hf 0 x c rfl rfl, hq x List.mem_cons_self⟩ :: l, by simp [h1], by simp [h2]⟩
theorem flat_lenK {sz : Nat} : ∀ {rows : List (List Value)}, (∀ c ∈ rows, c.length = sz) → rows.flatten.length = rows.length * sz
 | [], _ => by simp
 | c :: rows, h => by
  rw [List.flatten_cons, List.length_append, flat_lenK (fun c' hc => h c' (List.mem_cons_of_mem _ hc)), h c List.mem_cons_self, List.length_cons, Nat.add_mul, Nat.one_mul, Nat.add_comm]
theorem flat_chunk {sz : Nat} : ∀ {rows : List (List Value)} (j : Nat) (c : List Value), (∀ c ∈ rows, c.length = sz) → rows[j]? = some c → (rows.flatten.drop (j * sz)).take sz = c
 | [], j, c, _, h => by simp at h
 | r :: rows, 0, c, hl, h => by
  simp only [List.getElem?_cons_zero, Option.some.injEq] at h
  subst h
  have := hl r List.mem_cons_self
  rw [Nat.zero_mul, List.drop_zero, List.flatten_cons, List.take_append_of_le_length (by omega), List.take_of_length_le (by omega)]
 | r :: rows, j + 1, c, hl, h => by
  have h0 := hl r List.mem_cons_self
  have hd : r.drop sz = [] := List.drop_of_length_le (by omega)
  rw [List.flatten_cons, Nat.add_mul, Nat.one_mul, Nat.add_comm, ← List.drop_drop, List.drop_append_of_le_length (by omega), hd, List.nil_append]
  exact flat_chunk j c (fun c' hc => hl c' (List.mem_cons_of_mem _ hc)) (by simpa using h)
theorem flat_at {sz : Nat} {rows : List (List Value)} (hl : ∀ c ∈ rows, c.length = sz) {t : Nat} (ht : t < rows.length * sz) {c : List Value} (hc : rows[t / sz]? = some c) : rows.flatten[t]? = c[t % sz]? := by
 have h := flat_chunk (t / sz) c hl hc
 have hsz : 0 < sz := by
  rcases Nat.eq_zero_or_pos sz with h0 | h0
  ·subst h0; simp at ht
  ·exact h0
 have hm := Nat.mod_lt t hsz
 rw [← h, List.getElem?_take, if_pos hm, List.getElem?_drop, Nat.mul_comm, Nat.div_add_mod]
theorem R_of_cells {l : List (Cel d Q w base ok)} {okk : Nat → Prop} {cur : Array Value} (hg0 : okk g) (hbase : base ≤ g) (hW : ∀ k, k ≠ g → k < w.heap.size → W.heap[k]? = w.heap[k]?)
  (hg : W.heap[g]? = some (.cells cur e (0, 0))) (hn : l.length ≤ cap) (hm : cap ≤ maxLen) (hs : cur.size = cap * d.sz) (ht : cur.toList.take (l.length * d.sz) = (l.map (·.c)).flatten) (hok2 : ∀ k, ok k → okk k ∧ k ≠ g) :
  d.R e W base okk (.slice (some ⟨g, 0, none⟩) l.length cap) (l.map (·.x)) := by
 have hl : ∀ c ∈ l.map (·.c), c.length = d.sz := by
  intro c hc
  obtain ⟨z, _, rfl⟩ := List.mem_map.1 hc
  exact z.len
 refine ⟨fun k hk => ?_, (l.map (·.c)).flatten, ?_, ?_, ?_⟩
 ·simp only [Value.ownBlock, Option.some.injEq] at hk; rw [← hk]; exact hg0
 ·show World.ownsRow W base e d.sz _ _ _
  rw [List.length_map]
  exact ⟨by rw [flat_lenK hl, List.length_map], .inr ⟨g, cap, cur, rfl, hbase, hg, hn, hm, hs, ht⟩⟩
 ·rw [flat_lenK hl, List.length_map, List.length_map]
 ·intro j p hj
  rw [List.getElem?_map] at hj
  cases hz : l[j]? with
  | none => rw [hz] at hj; simp at hj
  | some z =>
   rw [hz] at hj
   simp only [Option.map_some, Option.some.injEq] at hj
   subst hj
   rw [flat_chunk j z.c hl (by rw [List.getElem?_map, hz]; rfl)]
   exact d.M_mono (fun k hk => ⟨(hok2 k hk).1, fun e_ => (hok2 k hk).2 (by simpa [Value.ownBlock] using e_)⟩) (z.move (fun k hk hlt => hW k (hok2 k hk).2 hlt))
theorem R_cells (h : d.R e w base ok v xs) (hq : ∀ x ∈ xs, Q x) (hp : 0 < xs.length) : ∃ g cap cur, v = .slice (some ⟨g, 0, none⟩) xs.length cap ∧ ok g ∧ base ≤ g ∧ g < w.heap.size ∧ w.heap[g]? = some (.cells cur e (0, 0)) ∧ xs.length ≤ cap ∧ cap ≤ maxLen ∧ cur.size = cap * d.sz ∧
  ∃ l : List (Cel d Q w base (fun k => ok k ∧ k ≠ g)), l.map (·.x) = xs ∧ cur.toList.take (xs.length * d.sz) = (l.map (·.c)).flatten := by
 obtain ⟨h0, inner, ho, hr⟩ := h
 obtain ⟨hlen, ho⟩ := ho
 rcases ho with ⟨rfl, hz⟩ | ⟨g, cap, cur, rfl, hb, hg, hn, hm, hs, ht⟩
 ·omega
 ·have hgl : g < w.heap.size := by
   rcases Nat.lt_or_ge g w.heap.size with h | h
   ·exact h
   ·rw [Array.getElem?_eq_none h] at hg; cases hg
  obtain ⟨l, h1, h2⟩ := cels_of (d := d) (w := w) (base := base) (Q := Q) (ok := fun k => ok k ∧ k ≠ g) xs (chunks d.sz xs.length inner) (chunks_length _ _ _) hq (fun j x c hx hc => by
   rw [chunks_get hc]
   exact d.M_mono (fun k hk => ⟨hk.1, fun e_ => hk.2 (by rw [e_]; rfl)⟩) (hr.2 j x hx))
  refine ⟨g, cap, cur, rfl, h0 g rfl, hb, hgl, hg, hn, hm, hs, l, h1, ?_⟩
  have hrl : ∀ c ∈ l.map (·.c), c.length = d.sz := by
   intro c hc
   obtain ⟨z, _, rfl⟩ := List.mem_map.1 hc
   exact z.len
  rw [ht]
  apply List.ext_getElem?
  intro t
  have hll : (l.map (·.c)).length = xs.length := by rw [List.length_map, ← h1, List.length_map]
  by_cases htl : t < xs.length * d.sz
  ·have hsz : 0 < d.sz := by
    rcases Nat.eq_zero_or_pos d.sz with h | h
    ·rw [h] at htl; simp at htl
    ·exact h
   have hdiv : t / d.sz < xs.length := (Nat.div_lt_iff_lt_mul hsz).2 htl
   have hc := chunks_at (sz := d.sz) (inner := inner) hdiv
   rw [← h2] at hc
   rw [flat_at hrl (by rw [hll]; exact htl) hc]
   have hmod := Nat.mod_lt t hsz
   rw [List.getElem?_take, if_pos hmod, List.getElem?_drop, Nat.mul_comm, Nat.div_add_mod]
  ·rw [List.getElem?_eq_none (by rw [hlen]; omega), List.getElem?_eq_none (by rw [flat_lenK hrl, hll]; omega)]
theorem row_after {cur F : Array Value} {m : Nat} {os : Array Obj} (hg : w.heap[g]? = some (.cells cur e (0, 0))) (hF : F.size ≤ cur.size) (hW : W = grow (putRow id (Sort.ahead w m) g 0 F) os) :
  W.heap[g]? = some (.cells (putCells id 0 F cur) e (0, 0)) ∧ (∀ k, k ≠ g → k < w.heap.size → W.heap[k]? = w.heap[k]?) ∧ w.heap.size ≤ W.heap.size ∧ W.os = w.os ∧ W.tape = w.tape ∧ W.output = w.output ∧ (putCells id 0 F cur).size = cur.size ∧ (putCells id 0 F cur).toList.take F.size = F.toList := by
 subst hW
 have hgl : g < w.heap.size := by
  rcases Nat.lt_or_ge g w.heap.size with h | h
  ·exact h
  ·rw [Array.getElem?_eq_none h] at hg; cases hg
 have hp : ∀ k, k < w.heap.size → (grow (putRow id (Sort.ahead w m) g 0 F) os).heap[k]? = (w.heap.modify g (onCells (putCells id 0 F)))[k]? := by
  intro k hk
  show ((w.heap.modify g (onCells (putCells id 0 F))) ++ os)[k]? = _
  rw [Array.getElem?_append_left (by simpa using hk)]
 refine ⟨?_, ?_, ?_, rfl, rfl, rfl, by simp [putCells], ?_⟩
 ·rw [hp g hgl, Array.getElem?_modify, if_pos rfl, hg]; rfl
 ·intro k hk hlt
  rw [hp k hlt, Array.getElem?_modify, if_neg (fun e_ => hk e_.symm)]
 ·show w.heap.size ≤ ((w.heap.modify g (onCells (putCells id 0 F))) ++ os).size
  simp
 ·apply List.ext_getElem?
  intro t
  by_cases ht : t < F.size
  ·rw [List.getElem?_take, if_pos ht, Array.getElem?_toList, Array.getElem?_toList]
   have htc : t < cur.size := by omega
   simp only [putCells, Array.getElem?_mapIdx, Array.getElem?_eq_getElem htc, Array.getElem?_eq_getElem ht, Option.map_some, Nat.zero_le, true_and, Nat.zero_add, ht, if_true, Nat.sub_zero, id]
   rw [getElem!_pos F t ht]
  ·rw [List.getElem?_eq_none (by simp; omega), List.getElem?_eq_none (by simp; omega)]
theorem flatK_list [Inhabited (Cel d Q w base ok)] (D : Array (Cel d Q w base ok)) : (flatK (·.c) d.sz D).toList = (D.toList.map (·.c)).flatten := by
 have hl : ∀ c ∈ D.toList.map (·.c), c.length = d.sz := by
  intro c hc
  obtain ⟨z, _, rfl⟩ := List.mem_map.1 hc
  exact z.len
 apply List.ext_getElem?
 intro t
 by_cases ht : t < D.size * d.sz
 ·have hsz : 0 < d.sz := by
   rcases Nat.eq_zero_or_pos d.sz with h | h
   ·rw [h] at ht; simp at ht
   ·exact h
  have hdiv : t / d.sz < D.size := (Nat.div_lt_iff_lt_mul hsz).2 ht
  have hmod := Nat.mod_lt t hsz
  rw [flat_at hl (by simpa using ht) (c := D[t / d.sz].c) (by rw [List.getElem?_map, Array.getElem?_toList, Array.getElem?_eq_getElem hdiv]; rfl), Array.getElem?_toList]
  rw [Array.getElem?_eq_getElem (by rw [size_flatK]; exact ht)]
  have hg := get_flatK (fun z : Cel d Q w base ok => z.c) d.sz D t ht
  rw [getElem!_pos _ t (by rw [size_flatK]; exact ht), getElem!_pos D _ hdiv] at hg
  have hlen := D[t / d.sz].len
  rw [hg, getElem!_pos _ _ (by omega), List.getElem?_eq_getElem (by omega)]
 ·rw [List.getElem?_eq_none (by simp; omega), List.getElem?_eq_none (by rw [flat_lenK hl]; simp; omega)]
theorem perm_list {β : Type} [Inhabited β] {D D' : Array β} (h : PermIn 0 D.size D D') : D'.toList.Perm D.toList := by
 obtain ⟨hs, _, hp⟩ := h
 have h1 : D.extract 0 D.size = D := by simp
 have h2 : D'.extract 0 D.size = D' := by rw [← hs]; simp
 rw [h1, h2] at hp
 exact hp
theorem sorted_list {β : Type} [Inhabited β] {lt : β → β → Bool} {D D' : Array β} (hs : D'.size = D.size) (h : SortedIn lt 0 D.size D') : D'.toList.Pairwise (fun a b => lt b a = false) := by
 rw [List.pairwise_iff_getElem]
 intro i j hi hj hij
 have hi' : i < D'.size := by simpa using hi
 have hj' : j < D'.size := by simpa using hj
 have := h i j (Nat.zero_le _) hij (by omega)
 rwa [getElem!_pos D' i hi', getElem!_pos D' j hj'] at this
theorem below_of {b : Nat} (hW : ∀ k, k ≠ g → k < w.heap.size → W.heap[k]? = w.heap[k]?) (hs : w.heap.size ≤ W.heap.size) (h1 : W.os = w.os) (h2 : W.tape = w.tape) (h3 : W.output = w.output) (hb : b ≤ g) (hg : g < w.heap.size) : Go.RowKit.Below b w W :=
 ⟨h1, h2, h3, hs, fun k hk => hW k (by omega) (by omega)⟩
structure Ord3 (Q : α → Prop) (cf : α → α → Int) : Prop where
 irr : ∀ x, Q x → ¬ cf x x < 0
 tr : ∀ x y z, Q x → Q y → Q z → cf x y < 0 → cf y z < 0 → cf x z < 0
 nt : ∀ x y z, Q x → Q y → Q z → ¬ cf x y < 0 → ¬ cf y z < 0 → ¬ cf x z < 0
theorem Ord3.swo {cf : α → α → Int} (h : Ord3 Q cf) : SWO (ltOf fun p q : Cel d Q w base ok => cf p.x q.x) where
 irrefl p := decide_eq_false (h.irr p.x p.q)
 trans p q r h1 h2 := decide_eq_true (h.tr p.x q.x r.x p.q q.q r.q (of_decide_eq_true h1) (of_decide_eq_true h2))
 ntrans p q r h1 h2 := decide_eq_false (h.nt p.x q.x r.x p.q q.q r.q (of_decide_eq_false h1) (of_decide_eq_false h2))
def SortedTo (d : Kd α) (cf : α → α → Int) (e : Nat) (w w' : World) (base : Nat) (ok : Nat → Prop) (v : Value) (xs : List α) : Prop :=
 ∃ xs' : List α, xs'.Perm xs ∧ xs'.Pairwise (fun a b => ¬ cf b a < 0) ∧ d.R e w' base ok v xs' ∧ Kept w w' (fun k => some k = v.ownBlock) ∧ Go.RowKit.Below base w w'
theorem sortedTo_nil {cf : α → α → Int} (h : d.R e w base ok v []) : SortedTo d cf e w w base ok v [] :=
 ⟨[], List.Perm.refl _, List.Pairwise.nil, h, Kept.refl _ _, Go.RowKit.Below.refl _ _⟩
theorem sortedTo_of {cf : α → α → Int} {D D' : Array (Cel d Q w base (fun k => ok k ∧ k ≠ g))} [Inhabited (Cel d Q w base (fun k => ok k ∧ k ≠ g))] {cur F : Array Value} {m : Nat} {os : Array Obj} (hD : D.toList.map (·.x) = xs) (hp : PermIn 0 D.size D D') (hs : SortedIn (ltOf fun p q : Cel d Q w base (fun k => ok k ∧ k ≠ g) => cf p.x q.x) 0 D.size D')
  (hF : F.toList = (D'.toList.map (·.c)).flatten) (hW : W = grow (putRow id (Sort.ahead w m) g 0 F) os) (hg0 : ok g) (hb : base ≤ g) (hgl : g < w.heap.size) (hg : w.heap[g]? = some (.cells cur e (0, 0))) (hn : xs.length ≤ cap) (hm : cap ≤ maxLen) (hc : cur.size = cap * d.sz) :
  SortedTo d cf e w W base ok (.slice (some ⟨g, 0, none⟩) xs.length cap) xs := by
 have hpl := perm_list hp
 have hlen : D'.toList.length = xs.length := by rw [hpl.length_eq, ← hD, List.length_map]
 have hFs : F.size = xs.length * d.sz := by
  have h1 : F.toList.length = _ := congrArg List.length hF
  rw [flat_lenK (fun c hc => by obtain ⟨z, _, rfl⟩ := List.mem_map.1 hc; exact z.len), List.length_map, hlen] at h1
  simpa using h1
 obtain ⟨a1, a2, a3, a4, a5, a6, a7, a8⟩ := row_after (W := W) hg (by rw [hFs, hc]; exact Nat.mul_le_mul_right _ hn) hW
 have hN := R_of_cells (l := D'.toList) (okk := ok) (base := base) (e := e) (cap := cap) hg0 hb a2 a1 (by omega) hm (by omega) (by rw [hlen, ← hFs, a8, hF]) (fun k hk => hk)
 rw [hlen] at hN
 refine ⟨D'.toList.map (·.x), ?_, ?_, hN, ⟨a3, fun k hk hne => a2 k (fun e_ => hne (by rw [e_]; rfl)) hk⟩, below_of a2 a3 a4 a5 a6 hb hgl⟩
 ·rw [← hD]; exact hpl.map _
 ·rw [List.pairwise_map]
  exact (sorted_list hp.1 hs).imp (fun h => of_decide_eq_false h)
end
section
variable {P : Program} {ρ : Ren} {α : Type} {d : Kd α} {Q : α → Prop} {w : World} {ok : Nat → Prop} {e base : Nat} {v : Value} {xs : List α}
set_option maxHeartbeats 2000000 in
theorem sortN (L : SlLaysF0.n6 P ρ) (aE : ∀ w, (isAgg (ρ.t 24)).run P w = .ok true w) (zE : ∀ w, (Go.sizeOf (ρ.t 24)).run P w = .ok d.sz w) {cf : α → α → Int} (hO : Ord3 Q cf) (f : Nat)
  (eg : ∀ args w, (callFunc f args).run P w = .ok (.enter f args) w) (hc : ∀ (W : World) (x y : α) (cx cy : List Value), Q x → Q y → d.K W x cx → d.K W y cy → Calls P f #[.agg cx.toArray, .agg cy.toArray] W fun e w' => e = .returned (.int .i64 (cf x y)) ∧ ∃ q os', w' = grow (W.drewN q) os')
  (h : d.R e w base ok v xs) (hq : ∀ x ∈ xs, Q x) (hsz : xs.length < 4611686018427387904) :
  Calls P (ρ.f 6) #[v, .func (.func f) #[] #[]] w fun e' w' => e' = .returned (.tuple #[]) ∧ SortedTo d cf e w w' base ok v xs := by
 rcases Nat.eq_zero_or_pos xs.length with h0 | hp
 ·have hx : xs = [] := List.length_eq_zero_iff.1 h0
  subst hx
  obtain ⟨A, c, rfl⟩ := Kd.R_slice h
  exact (AnyF.slices_SortFunc_none L A c _ w).mono fun _ _ ⟨he, hw⟩ => ⟨he, by rw [hw]; exact sortedTo_nil h⟩
 ·obtain ⟨g, cap, cur, rfl, hg0, hb, hgl, hg, hn, hm, hcs, l, hl1, hl2⟩ := R_cells h hq hp
  have hll : l.length = xs.length := by rw [← hl1, List.length_map]
  haveI : Inhabited (Cel d Q w base (fun k => ok k ∧ k ≠ g)) := ⟨l[0]'(by omega)⟩
  have hFl := flatK_list (d := d) (Q := Q) (w := w) (ok := fun k => ok k ∧ k ≠ g) l.toArray
  have hFs : (flatK (fun z : Cel d Q w base (fun k => ok k ∧ k ≠ g) => z.c) d.sz l.toArray).size = xs.length * d.sz := by rw [size_flatK]; simp [hll]
  have hcs' : xs.length * d.sz ≤ cur.size := by rw [hcs]; exact Nat.mul_le_mul_right _ hn
  have hH : HoldsK (fun z : Cel d Q w base (fun k => ok k ∧ k ≠ g) => z.c) d.sz w g 0 l.toArray := by
   intro j hj
   rw [hFs] at hj
   have h1 : cur[j]? = (flatK (fun z : Cel d Q w base (fun k => ok k ∧ k ≠ g) => z.c) d.sz l.toArray)[j]? := by
    rw [← Array.getElem?_toList, ← Array.getElem?_toList, hFl]
    show _ = (List.map _ l).flatten[j]?
    rw [← hl2, List.getElem?_take, if_pos hj]
   refine ⟨?_, ?_⟩
   ·show w.cell? ⟨g, 0 + j, none⟩ = _
    rw [Nat.zero_add, getElem!_pos _ j (by rw [hFs]; exact hj)]
    simp only [World.cell?, hg, Option.isSome_none, Bool.false_eq_true, if_false]
    rw [h1, Array.getElem?_eq_getElem (by rw [hFs]; exact hj)]
    rfl
   ·simp [World.frozen?, hg]
  have key := AnyQ.slices_SortFunc L d.sz aE zE (fun z : Cel d Q w base (fun k => ok k ∧ k ≠ g) => z.c) (fun z => z.len) (fun z => z.one) (fun p q => cf p.x q.x) hO.swo f #[] g 0 cap l.toArray w eg
   (fun m os dk hs p q => by
    have hh : ∀ (z : Cel d Q w base (fun k => ok k ∧ k ≠ g)), d.K (sortWorldK (fun z : Cel d Q w base (fun k => ok k ∧ k ≠ g) => z.c) d.sz w g 0 m dk os) z.x z.c := fun z => d.K_of_M (z.move (fun k hk hlt => (row_after hg (F := flatK (fun z : Cel d Q w base (fun k => ok k ∧ k ≠ g) => z.c) d.sz dk) (by rw [size_flatK, hs]; simpa [hll] using hcs') rfl).2.1 k hk.2 hlt))
    exact hc _ p.x q.x p.c q.c p.q q.q (hh p) (hh q)) hH hgl (by simpa [hll] using hsz)
  have hsz' : l.toArray.size = xs.length := by simp [hll]
  rw [hsz'] at key
  refine key.mono ?_
  rintro e' w' ⟨rfl, D', n, os, hp', hs', rfl⟩
  rw [← hsz'] at hp' hs'
  exact ⟨rfl, sortedTo_of (D := l.toArray) (D' := D') (by simpa using hl1) hp' hs' (flatK_list D') rfl hg0 hb hgl hg hn hm hcs⟩
set_option maxHeartbeats 2000000 in
theorem sortN1 (L : SlLaysF.n6 P ρ) (L0 : SlLaysF0.n6 P ρ) (hd : d.sz = 1) {cf : α → α → Int} (hO : Ord3 Q cf) (f : Nat)
  (eg : ∀ args w, (callFunc f args).run P w = .ok (.enter f args) w) (hc : ∀ (W : World) (x y : α) (cx cy : Value), Q x → Q y → d.K W x [cx] → d.K W y [cy] → Calls P f #[cx, cy] W fun e w' => e = .returned (.int .i64 (cf x y)) ∧ ∃ q os', w' = grow (W.drewN q) os')
  (h : d.R e w base ok v xs) (hq : ∀ x ∈ xs, Q x) (hsz : xs.length < 4611686018427387904) :
  Calls P (ρ.f 6) #[v, .func (.func f) #[] #[]] w fun e' w' => e' = .returned (.tuple #[]) ∧ SortedTo d cf e w w' base ok v xs := by
 rcases Nat.eq_zero_or_pos xs.length with h0 | hp
 ·have hx : xs = [] := List.length_eq_zero_iff.1 h0
  subst hx
  obtain ⟨A, c, rfl⟩ := Kd.R_slice h
  exact (AnyF.slices_SortFunc_none L0 A c _ w).mono fun _ _ ⟨he, hw⟩ => ⟨he, by rw [hw]; exact sortedTo_nil h⟩
 ·obtain ⟨g, cap, cur, rfl, hg0, hb, hgl, hg, hn, hm, hcs, l, hl1, hl2⟩ := R_cells h hq hp
  have hll : l.length = xs.length := by rw [← hl1, List.length_map]
  haveI : Inhabited (Cel d Q w base (fun k => ok k ∧ k ≠ g)) := ⟨l[0]'(by omega)⟩
  obtain ⟨enc, one⟩ : ∃ enc : Cel d Q w base (fun k => ok k ∧ k ≠ g) → Value, ∀ z, z.c = [enc z] := ⟨fun z => z.c.headD .nilIface, fun z => by
   have hz := z.len
   rw [hd] at hz
   obtain ⟨u, hu⟩ := List.length_eq_one_iff.1 hz
   show z.c = [z.c.headD .nilIface]
   rw [hu]; rfl⟩
  have hfl : ∀ r : List (Cel d Q w base (fun k => ok k ∧ k ≠ g)), (r.map (·.c)).flatten = r.map enc := by
   intro r
   induction r with
   | nil => rfl
   | cons z r ih => rw [List.map_cons, List.map_cons, List.flatten_cons, ih, one z]; rfl
  have hput : ∀ (w' : World) (D : Array (Cel d Q w base (fun k => ok k ∧ k ≠ g))), putRow enc w' g 0 D = putRow id w' g 0 (D.map enc) := by
   intro w' D
   unfold putRow
   apply mapBlock_congr
   intro c e fr _
   unfold putCells
   apply Array.ext
   ·simp
   ·intro i h1 h2
    simp only [Array.getElem_mapIdx, Array.size_map, id]
    by_cases hi : 0 ≤ i ∧ i < 0 + D.size
    ·rw [if_pos hi, if_pos hi, getElem!_pos D _ (by omega), getElem!_pos (D.map _) _ (by simp; omega), Array.getElem_map]
    ·rw [if_neg hi, if_neg hi]
  have hsw : ∀ m (D : Array (Cel d Q w base (fun k => ok k ∧ k ≠ g))) os, sortWorld enc w g 0 m D os = grow (putRow id (Sort.ahead w m) g 0 (D.map enc)) os := by
   intro m D os
   unfold sortWorld
   rw [hput]
  have hcs' : xs.length ≤ cur.size := by rw [hcs, hd]; omega
  have hsame : ∀ m (D : Array (Cel d Q w base (fun k => ok k ∧ k ≠ g))) os, D.size = xs.length → ∀ k, k ≠ g → k < w.heap.size → (sortWorld enc w g 0 m D os).heap[k]? = w.heap[k]? := by
   intro m D os hD
   rw [hsw]
   exact (row_after hg (F := D.map enc) (by rw [Array.size_map, hD]; exact hcs') rfl).2.1
  have hH : Holds enc w g 0 l.toArray := by
   intro j hj
   have hj' : j < l.length := by simpa using hj
   refine ⟨?_, ?_⟩
   ·show w.cell? ⟨g, 0 + j, none⟩ = _
    rw [Nat.zero_add, getElem!_pos _ j hj]
    simp only [World.cell?, hg, Option.isSome_none, Bool.false_eq_true, if_false]
    rw [hd, Nat.mul_one, hfl] at hl2
    have h1 := congrArg (fun r => r[j]?) hl2
    simp only [List.getElem?_take, List.getElem?_map] at h1
    rw [if_pos (by omega), Array.getElem?_toList, List.getElem?_eq_getElem hj'] at h1
    rw [h1]
    rfl
   ·simp [World.frozen?, hg]
  have key := Any.slices_SortFunc L enc (fun z => z.one _ (by rw [one z]; exact List.mem_singleton.2 rfl)) (fun p q => cf p.x q.x) hO.swo f #[] g 0 cap l.toArray w eg
   (fun m os dk hs p q => by
    have hh : ∀ (z : Cel d Q w base (fun k => ok k ∧ k ≠ g)), d.K (sortWorld enc w g 0 m dk os) z.x [enc z] := fun z => by
     have h1 := d.K_of_M (z.move (W := sortWorld enc w g 0 m dk os) (fun k hk hlt => hsame m dk os (by rw [hs]; simpa using hll) k hk.2 hlt))
     rw [one z] at h1
     exact h1
    exact hc _ p.x q.x _ _ p.q q.q (hh p) (hh q)) hH hgl (by simpa [hll] using hsz)
  have hsz' : l.toArray.size = xs.length := by simp [hll]
  rw [hsz'] at key
  refine key.mono ?_
  rintro e' w' ⟨rfl, D', n, os, hp', hs', rfl⟩
  rw [← hsz'] at hp' hs'
  refine ⟨rfl, ?_⟩
  rw [hsw n D' os]
  exact sortedTo_of (D := l.toArray) (D' := D') (F := D'.map enc) (by simpa using hl1) hp' hs' (by rw [Array.toList_map, hfl]) rfl hg0 hb hgl hg hn hm hcs
end
section
variable {α : Type} {d : Kd α} {Q : α → Prop} {w W : World} {ok : Nat → Prop} {e base g cap : Nat} {v : Value} {xs : List α}
theorem idxOf_nodup : ∀ (l : List Nat) (j : Nat) (a : Nat), l.Nodup → l[j]? = some a → l.idxOf a = j
 | [], j, a, _, h => by simp at h
 | b :: l, 0, a, _, h => by simp at h; subst h; simp
 | b :: l, j + 1, a, hn, h => by
  have h' : l[j]? = some a := by simpa using h
  have hm := List.mem_of_getElem? h'
  have hne : b ≠ a := fun e_ => (List.nodup_cons.1 hn).1 (e_ ▸ hm)
  have ih := idxOf_nodup l j a (List.nodup_cons.1 hn).2 h'
  rw [List.idxOf_cons]
  have hb : (b == a) = false := beq_eq_false_iff_ne.2 hne
  rw [hb, ih]; rfl
theorem S_of_tag {f : Nat → Nat} {ys : List (α × Nat)} (h : (Kd.tag f d).R e w base ok v ys) (hn : (ys.map (·.2)).Nodup) : Kd.S d e w base ok v (ys.map (·.1)) := by
 obtain ⟨h0, inner, ho, hr⟩ := h
 refine ⟨fun k => (ys.map (·.2)).idxOf (f k), h0, inner, ?_, ?_, ?_⟩
 ·rw [List.length_zipIdx, List.length_map]; exact ho
 ·rw [List.length_zipIdx, List.length_map]; exact hr.1
 ·intro j p hj
  rw [List.getElem?_zipIdx, List.getElem?_map] at hj
  cases hy : ys[j]? with
  | none => rw [hy] at hj; simp at hj
  | some y =>
   rw [hy] at hj
   simp only [Option.map_some, Option.some.injEq, Nat.zero_add] at hj
   subst hj
   refine d.M_mono (fun k hk => ⟨hk.1, ?_⟩) (hr.2 j y hy)
   show (ys.map (·.2)).idxOf (f k) = j
   rw [hk.2]
   exact idxOf_nodup _ j _ hn (by rw [List.getElem?_map, hy]; rfl)
theorem zip_nodup (xs : List α) : (xs.zipIdx.map (·.2)).Nodup := by
 rw [List.zipIdx_map_snd]
 exact List.nodup_range'
theorem zip_fst (xs : List α) : xs.zipIdx.map (·.1) = xs := List.zipIdx_map_fst 0 xs
def SortedToS (d : Kd α) (cf : α → α → Int) (e : Nat) (w w' : World) (base : Nat) (ok : Nat → Prop) (v : Value) (xs : List α) : Prop :=
 ∃ xs' : List α, xs'.Perm xs ∧ xs'.Pairwise (fun a b => ¬ cf b a < 0) ∧ Kd.S d e w' base ok v xs' ∧ Kept w w' (fun k => some k = v.ownBlock) ∧ Go.RowKit.Below base w w'
theorem sortedS_of {f : Nat → Nat} {cf : α → α → Int} (h : SortedTo (Kd.tag f d) (fun p q => cf p.1 q.1) e w W base ok v xs.zipIdx) : SortedToS d cf e w W base ok v xs := by
 obtain ⟨ys, h1, h2, h3, h4, h5⟩ := h
 refine ⟨ys.map (·.1), ?_, ?_, S_of_tag h3 ?_, h4, h5⟩
 ·have := h1.map (·.1)
  rwa [zip_fst] at this
 ·rw [List.pairwise_map]; exact h2
 ·exact (h1.map (·.2)).nodup_iff.2 (zip_nodup xs)
theorem Ord3.fst {cf : α → α → Int} (h : Ord3 Q cf) : Ord3 (fun p : α × Nat => Q p.1) (fun p q => cf p.1 q.1) where
 irr p hp := h.irr p.1 hp
 tr p q r hp hq hr := h.tr p.1 q.1 r.1 hp hq hr
 nt p q r hp hq hr := h.nt p.1 q.1 r.1 hp hq hr
theorem zip_all (h : ∀ x ∈ xs, Q x) : ∀ p ∈ xs.zipIdx, Q p.1 := fun p hp => h p.1 (by
 have := List.mem_map_of_mem (f := (·.1)) hp
 rwa [zip_fst] at this)
end
section
variable {α β : Type}
def cptGo (eqf : α → α → Bool) : α → List α → List α
 | _, [] => []
 | p, y :: r => if eqf y p then cptGo eqf y r else y :: cptGo eqf y r
def cpt (eqf : α → α → Bool) : List α → List α
 | [] => []
 | x :: r => x :: cptGo eqf x r
theorem cptGo_sub (eqf : α → α → Bool) : ∀ (p : α) (l : List α), (cptGo eqf p l).Sublist l
 | _, [] => List.Sublist.refl _
 | p, y :: r => by
  unfold cptGo
  split
  ·exact (cptGo_sub eqf y r).cons _
  ·exact (cptGo_sub eqf y r).cons_cons _
theorem cpt_sub (eqf : α → α → Bool) : ∀ l : List α, (cpt eqf l).Sublist l
 | [] => List.Sublist.refl _
 | x :: r => (cptGo_sub eqf x r).cons_cons _
theorem cptGo_map (f : β → α) (eqf : α → α → Bool) : ∀ (p : β) (l : List β), (cptGo (fun a b => eqf (f a) (f b)) p l).map f = cptGo eqf (f p) (l.map f)
 | _, [] => rfl
 | p, y :: r => by
  simp only [cptGo, List.map_cons]
  split
  ·exact cptGo_map f eqf y r
  ·rw [List.map_cons, cptGo_map f eqf y r]
theorem cpt_map (f : β → α) (eqf : α → α → Bool) : ∀ l : List β, (cpt (fun a b => eqf (f a) (f b)) l).map f = cpt eqf (l.map f)
 | [] => rfl
 | x :: r => by simp only [cpt, List.map_cons, cptGo_map]
theorem cptGo_snoc (eqf : α → α → Bool) (x : α) : ∀ (p : α) (l : List α), cptGo eqf p (l ++ [x]) = cptGo eqf p l ++ (if eqf x ((p :: l).getLast (by simp)) then [] else [x])
 | p, [] => by
  show (if eqf x p then [] else [x]) = [] ++ (if eqf x p then [] else [x])
  rw [List.nil_append]
 | p, y :: r => by
  have e : (p :: y :: r).getLast (by simp) = (y :: r).getLast (by simp) := List.getLast_cons (by simp)
  rw [e]
  simp only [List.cons_append, cptGo]
  rw [cptGo_snoc eqf x y r]
  split <;> simp
theorem cpt_snoc (eqf : α → α → Bool) (x : α) (l : List α) (h : l ≠ []) : cpt eqf (l ++ [x]) = cpt eqf l ++ (if eqf x (l.getLast h) then [] else [x]) := by
 cases l with
 | nil => exact absurd rfl h
 | cons y r => simp only [List.cons_append, cpt]; rw [cptGo_snoc]
variable [Inhabited α]
def keepsB (eqf : α → α → Bool) (d : Array α) (j : Nat) : Bool := j == 0 || !(eqf d[j]! d[j - 1]!)
theorem cpt_take (eqf : α → α → Bool) (d : Array α) (m : Nat) (h : m < d.size) : cpt eqf (d.toList.take (m + 1)) = cpt eqf (d.toList.take m) ++ (if keepsB eqf d m then [d[m]!] else []) := by
 have hl : m < d.toList.length := by simpa using h
 rw [List.take_add_one, List.getElem?_eq_getElem hl]
 have hm : d.toList[m] = d[m]! := by rw [getElem!_pos d m h]; simp
 rw [hm]
 rcases Nat.eq_zero_or_pos m with h0 | h0
 ·subst h0; simp [cpt, cptGo, keepsB]
 ·have hne : d.toList.take m ≠ [] := by
   intro e_
   have h1 := congrArg List.length e_
   have h2 : d.toList.length = d.size := by simp
   rw [List.length_take, h2] at h1
   have h3 : min m d.size = 0 := h1
   omega
  show cpt eqf (d.toList.take m ++ [d[m]!]) = _
  rw [cpt_snoc eqf _ _ hne]
  have hlast : (d.toList.take m).getLast hne = d[m - 1]! := by
   rw [List.getLast_eq_getElem]
   have h1 : (d.toList.take m).length - 1 = m - 1 := by rw [List.length_take]; simp; omega
   simp only [h1, List.getElem_take]
   rw [getElem!_pos d (m - 1) (by omega)]
   simp
  rw [hlast]
  have : (m == 0) = false := by simp; omega
  simp only [keepsB, this, Bool.false_or]
  cases eqf d[m]! d[m - 1]! <;> simp
structure CompB (eqf : α → α → Bool) (d : Array α) (m k : Nat) (dk : Array α) : Prop where
 size : dk.size = d.size
 len : (cpt eqf (d.toList.take m)).length = k
 le : k ≤ m
 low : ∀ j, j < k → (cpt eqf (d.toList.take m))[j]? = some dk[j]!
 high : ∀ j, k ≤ j → dk[j]! = d[j]!
variable {eqf : α → α → Bool} {d dk : Array α} {m k : Nat}
theorem CompB.one (h : 0 < d.size) : CompB eqf d 1 1 d := by
 have h0 : d.toList.take 1 = [d[0]!] := by
  have := List.take_add_one (l := d.toList) (i := 0)
  rw [List.getElem?_eq_getElem (by simpa using h)] at this
  rw [this, getElem!_pos d 0 h]; simp
 refine ⟨rfl, by rw [h0]; rfl, Nat.le_refl _, fun j hj => ?_, fun _ _ => rfl⟩
 obtain rfl : j = 0 := by omega
 rw [h0]; rfl
theorem CompB.skip (h : CompB eqf d m k dk) (hm : m < d.size) (hk : keepsB eqf d m = false) : CompB eqf d (m + 1) k dk where
 size := h.size
 len := by rw [cpt_take eqf d m hm, hk]; simpa using h.len
 le := by have := h.le; omega
 low := fun j hj => by rw [cpt_take eqf d m hm, hk]; simpa using h.low j hj
 high := h.high
theorem CompB.keep (h : CompB eqf d m k dk) (hm : m < d.size) (hk : keepsB eqf d m = true) : CompB eqf d (m + 1) (k + 1) (dk.setIfInBounds k d[m]!) where
 size := by simp [h.size]
 len := by rw [cpt_take eqf d m hm, hk]; simp [h.len]
 le := by have := h.le; omega
 low := fun j hj => by
  rw [cpt_take eqf d m hm, hk, if_pos rfl]
  by_cases e_ : j = k
  ·subst e_
   rw [List.getElem?_append_right (by rw [h.len]; exact Nat.le_refl _), h.len, Nat.sub_self, Go.Sort.getElem!_set_same dk j _ (by have := h.le; have := h.size; omega)]
   rfl
  ·rw [List.getElem?_append_left (by rw [h.len]; omega), h.low j (by omega), Go.Sort.getElem!_set_other dk k j _ e_]
 high := fun j hj => by rw [Go.Sort.getElem!_set_other dk k j _ (by omega), h.high j (by omega)]
theorem CompB.same (h : CompB eqf d m m d) (hm : m < d.size) (hk : keepsB eqf d m = true) : CompB eqf d (m + 1) (m + 1) d where
 size := rfl
 len := by rw [cpt_take eqf d m hm, hk]; simp [h.len]
 le := Nat.le_refl _
 low := fun j hj => by
  rw [cpt_take eqf d m hm, hk, if_pos rfl]
  by_cases e_ : j = m
  ·subst e_
   rw [List.getElem?_append_right (by rw [h.len]; exact Nat.le_refl _), h.len, Nat.sub_self]
   rfl
  ·rw [List.getElem?_append_left (by rw [h.len]; omega), h.low j (by omega)]
 high := fun _ _ => rfl
theorem CompB.done (h : CompB eqf d d.size k dk) : dk.toList.take k = cpt eqf d.toList ∧ k = (cpt eqf d.toList).length := by
 have ht : d.toList.take d.size = d.toList := by rw [List.take_of_length_le]; simp
 have hl := h.len
 have hlow := h.low
 rw [ht] at hl hlow
 refine ⟨?_, hl.symm⟩
 apply List.ext_getElem?
 intro j
 have hle := h.le
 have hsz := h.size
 by_cases hj : j < k
 ·rw [List.getElem?_take, if_pos hj, hlow j hj, Array.getElem?_toList, Array.getElem?_eq_getElem (by omega), getElem!_pos dk j (by omega)]
 ·rw [List.getElem?_eq_none (by simp; omega), List.getElem?_eq_none (by omega)]
end
section
variable {α : Type} {d : Kd α} {Q : α → Prop} {w W W' : World} {ok : Nat → Prop} {e base g cap : Nat} {v : Value} {xs : List α}
theorem after_set : ∀ (vs : List Value) (o : Nat) (W : World) (cur : Array Value), W.heap[g]? = some (.cells cur e (0, 0)) →
  ∃ cur', (W.setCells g o vs).heap[g]? = some (.cells cur' e (0, 0)) ∧ cur'.size = cur.size ∧ (∀ t, t < o → cur'[t]? = cur[t]?) ∧ (∀ k, k ≠ g → (W.setCells g o vs).heap[k]? = W.heap[k]?) ∧ (W.setCells g o vs).heap.size = W.heap.size ∧ (W.setCells g o vs).os = W.os ∧ (W.setCells g o vs).tape = W.tape ∧ (W.setCells g o vs).output = W.output
 | [], o, W, cur, h => ⟨cur, h, rfl, fun _ _ => rfl, fun _ _ => rfl, rfl, rfl, rfl, rfl⟩
 | u :: r, o, W, cur, h => by
  have h1 : (W.setCell ⟨g, o, none⟩ u).heap[g]? = some (.cells (cur.setIfInBounds o u) e (0, 0)) := by
   rw [setCell_eq]
   show (W.heap.modify g (onCells _))[g]? = _
   rw [Array.getElem?_modify, if_pos rfl, h]; rfl
  obtain ⟨cur', a1, a2, a3, a4, a5, a6, a7, a8⟩ := after_set r (o + 1) (W.setCell ⟨g, o, none⟩ u) _ h1
  refine ⟨cur', a1, by rw [a2]; simp, fun t ht => ?_, fun k hk => ?_, ?_, a6, a7, a8⟩
  ·rw [a3 t (by omega), Array.getElem?_setIfInBounds, if_neg (by omega)]
  ·rw [World.setCells, a4 k hk, setCell_eq]
   show (W.heap.modify g (onCells _))[k]? = _
   rw [Array.getElem?_modify, if_neg (fun e_ => hk e_.symm)]
  ·rw [World.setCells, a5, setCell_eq]
   show (W.heap.modify g (onCells _)).size = _
   simp
def CompactTo (d : Kd α) (eqf : α → α → Bool) (e : Nat) (w w' : World) (base : Nat) (ok : Nat → Prop) (v v' : Value) (xs : List α) : Prop :=
 d.R e w' base ok v' (cpt eqf xs) ∧ Kept w w' (fun k => some k = v.ownBlock) ∧ Go.RowKit.Below base w w'
theorem compR_of [Inhabited (Cel d Q w base (fun k => ok k ∧ k ≠ g))] {D dk : Array (Cel d Q w base (fun k => ok k ∧ k ≠ g))} {eqf : α → α → Bool} {kk m : Nat} {F cur : Array Value} {os : Array Obj} (hC : CompB (fun p q : Cel d Q w base (fun k => ok k ∧ k ≠ g) => eqf p.x q.x) D D.size kk dk) (hD : D.toList.map (·.x) = xs)
  (hF : F.toList = (dk.toList.map (·.c)).flatten) (hW : W = grow (putRow id (Sort.ahead w m) g 0 F) os) (hW' : W' = W ∨ ∃ vs, W' = W.setCells g (kk * d.sz) vs) (hg0 : ok g) (hb : base ≤ g) (hgl : g < w.heap.size) (hg : w.heap[g]? = some (.cells cur e (0, 0))) (hn : xs.length ≤ cap) (hm : cap ≤ maxLen) (hc : cur.size = cap * d.sz) :
  CompactTo d eqf e w W' base ok (.slice (some ⟨g, 0, none⟩) xs.length cap) (.slice (some ⟨g, 0, none⟩) kk cap) xs := by
 obtain ⟨hcp, hk⟩ := hC.done
 have hlen : dk.size = xs.length := by rw [hC.size, ← hD]; simp
 have hlenD : D.toList.length = xs.length := by rw [← hD]; simp
 have hkk : kk ≤ xs.length := by rw [hk, ← hlenD]; exact (cpt_sub _ _).length_le
 have hl : ∀ c ∈ dk.toList.map (·.c), c.length = d.sz := by
  intro c hc
  obtain ⟨z, _, rfl⟩ := List.mem_map.1 hc
  exact z.len
 have hFs : F.size = xs.length * d.sz := by
  have h1 : F.toList.length = _ := congrArg List.length hF
  rw [flat_lenK hl, List.length_map] at h1
  rw [← hlen]
  simpa using h1
 have hle : F.size ≤ cur.size := by rw [hFs, hc]; exact Nat.mul_le_mul_right _ hn
 obtain ⟨a1, a2, a3, a4, a5, a6, a7, a8⟩ := row_after (W := W) hg hle hW
 have hkm : kk * d.sz ≤ xs.length * d.sz := Nat.mul_le_mul_right _ hkk
 have hpre : ∀ t, t < kk * d.sz → (putCells id 0 F cur)[t]? = ((dk.toList.take kk).map (·.c)).flatten[t]? := by
  intro t ht
  have h1 : (putCells id 0 F cur).toList[t]? = F.toList[t]? := by
   rw [← a8, List.getElem?_take, if_pos (by omega)]
  rw [Array.getElem?_toList] at h1
  rw [h1, hF]
  conv => lhs; rw [← List.take_append_drop kk dk.toList, List.map_append, List.flatten_append]
  rw [List.getElem?_append_left]
  rw [flat_lenK (fun c hc => hl c (by obtain ⟨z, hz, rfl⟩ := List.mem_map.1 hc; exact List.mem_map_of_mem (List.mem_of_mem_take hz))), List.length_map, List.length_take]
  simp only [Array.length_toList]
  rw [Nat.min_eq_left (by omega)]
  exact ht
 have fin : ∀ (X : World) (cur' : Array Value), X.heap[g]? = some (.cells cur' e (0, 0)) → cur'.size = cur.size → (∀ t, t < kk * d.sz → cur'[t]? = (putCells id 0 F cur)[t]?) → (∀ k, k ≠ g → k < w.heap.size → X.heap[k]? = w.heap[k]?) →
   d.R e X base ok (.slice (some ⟨g, 0, none⟩) kk cap) (cpt eqf xs) := by
  intro X cur' h1 h2 h3 h4
  have hll : (dk.toList.take kk).length = kk := by rw [List.length_take]; simp only [Array.length_toList]; omega
  have := R_of_cells (l := dk.toList.take kk) (W := X) (okk := ok) (base := base) (e := e) (cap := cap) hg0 hb h4 h1 (by omega) hm (by omega) (by
   rw [hll]
   apply List.ext_getElem?
   intro t
   by_cases ht : t < kk * d.sz
   ·rw [List.getElem?_take, if_pos ht, Array.getElem?_toList, h3 t ht, hpre t ht]
   ·rw [List.getElem?_eq_none (by simp; omega), List.getElem?_eq_none]
    rw [flat_lenK (fun c hc => hl c (by obtain ⟨z, hz, rfl⟩ := List.mem_map.1 hc; exact List.mem_map_of_mem (List.mem_of_mem_take hz))), List.length_map, hll]
    omega) (fun k hk => hk)
  rw [hll, hcp, cpt_map (fun z : Cel d Q w base (fun k => ok k ∧ k ≠ g) => z.x), hD] at this
  exact this
 rcases hW' with rfl | ⟨vs, rfl⟩
 ·exact ⟨fin _ _ a1 a7 (fun _ _ => rfl) a2, ⟨a3, fun k hk hne => a2 k (fun e_ => hne (by rw [e_]; rfl)) hk⟩, below_of a2 a3 a4 a5 a6 hb hgl⟩
 ·obtain ⟨cur', b1, b2, b3, b4, b5, b6, b7, b8⟩ := after_set vs (kk * d.sz) W _ a1
  have h4 : ∀ k, k ≠ g → k < w.heap.size → (W.setCells g (kk * d.sz) vs).heap[k]? = w.heap[k]? := fun k hk hlt => by rw [b4 k hk, a2 k hk hlt]
  have h5 : w.heap.size ≤ (W.setCells g (kk * d.sz) vs).heap.size := by rw [b5]; exact a3
  exact ⟨fin _ _ b1 (by rw [b2, a7]) b3 h4, ⟨h5, fun k hk hne => h4 k (fun e_ => hne (by rw [e_]; rfl)) hk⟩, below_of h4 h5 (b6.trans a4) (b7.trans a5) (b8.trans a6) hb hgl⟩
end
end Go.Proofs.YtoijcallajegfaaGreat.M
end
section
/- Rows whose elements' blocks are told by numbers. No conditions. -/
namespace Go.Proofs.YtoijcallajegfaaGreat.M
set_option linter.unusedVariables false
set_option linter.unusedSimpArgs false
open Go Go.RowKit Go.Proofs.YtoijcallajegfaaGreatW.PrintWords.Kd Go.Proofs.YtoijcallajegfaaGreatW.PrintWords Go.Proofs.YtoijcallajegfaaGreatW.PrintLast Go.Proofs.YtoijcallajegfaaGreatW.PrintMore Go.Proofs.YtoijcallajegfaaGreat.A
namespace TR
section
variable {α : Type} {d : Kd α} {f : Nat → Nat} {w W w1 : World} {ok ok' : Nat → Prop} {e base g : Nat} {u v : Value} {xs : List α} {n : Int}
def T (f : Nat → Nat) (d : Kd α) (e : Nat) (w : World) (base : Nat) (ok : Nat → Prop) (v : Value) (xs : List α) (n : Int) : Prop :=
 ∃ zs : List (α × Nat), zs.map (·.1) = xs ∧ (zs.map (·.2)).Nodup ∧ (∀ q ∈ zs, (q.2 : Int) < n) ∧ (Kd.tag f d).R e w base ok v zs
theorem T_up {n' : Int} (h : T f d e w base ok v xs n) (hn : n ≤ n') : T f d e w base ok v xs n' := by
 obtain ⟨zs, a, b, c, h⟩ := h
 exact ⟨zs, a, b, fun q hq => by have := c q hq; omega, h⟩
theorem T_mono (h : T f d e w base ok v xs n) (hok : ∀ k, ok k → ok' k) : T f d e w base ok' v xs n := by
 obtain ⟨zs, a, b, c, h⟩ := h
 exact ⟨zs, a, b, c, Kd.R_mono h hok⟩
theorem T_below (h : T f d e w base ok v xs n) (hb : Go.RowKit.Below w.heap.size w w1) : T f d e w1 base ok v xs n := by
 obtain ⟨zs, a, b, c, h⟩ := h
 exact ⟨zs, a, b, c, Kd.R_below h hb⟩
theorem T_alloc (h : T f d e w base ok v xs n) (o : Obj) : T f d e (w.alloc o) base ok v xs n := T_below h (below_alloc (Go.RowKit.Below.refl _ _) o)
theorem T_drewN (h : T f d e w base ok v xs n) (m : Nat) : T f d e (w.drewN m) base ok v xs n := T_below h (pw_below_drewN (Go.RowKit.Below.refl _ _) m)
theorem T_drew (h : T f d e w base ok v xs n) : T f d e w.drew base ok v xs n := T_drewN h 1
theorem T_elder' (h : T f d e W base ok v xs n) (hbase : ∀ k, u.ownBlock = some k → W.heap.size ≤ k) (hb : Go.RowKit.Below W.heap.size W w1) : T f d e w1 base (fun k => ok k ∧ some k ≠ u.ownBlock) v xs n := by
 obtain ⟨zs, a, b, c, h⟩ := h
 exact ⟨zs, a, b, c, Kd.R_elder' h hbase hb⟩
theorem T_elderB (h : T f d e w base ok v xs n) (a : Nat) (ha : w.heap.size ≤ a) : T f d e w base (fun k => ok k ∧ k ≠ a) v xs n := by
 obtain ⟨zs, p, q, c, h⟩ := h
 exact ⟨zs, p, q, c, Kd.R_elderB h a ha⟩
theorem T_far (h : T f d e w base ok v xs n) {p : Addr} (hok : ∀ k, ok k → k ≠ p.block) (u : Value) : T f d e (w.setCell p u) base ok v xs n := by
 obtain ⟨zs, a, b, c, h⟩ := h
 exact ⟨zs, a, b, c, Kd.R_far h hok u⟩
theorem T_typed (h : T f d e w base ok v xs n) : ∀ k, v.ownBlock = some k → ∃ cells, w.heap[k]? = some (.cells cells e (0, 0)) := by
 obtain ⟨zs, a, b, c, h⟩ := h
 exact Kd.R_typed h
theorem T_away (h : T f d e w base ok v xs n) (hok : ∀ k, ok k → k ≠ g) : some g ≠ v.ownBlock := by
 obtain ⟨zs, a, b, c, h⟩ := h
 exact Kd.R_away h hok
theorem T_of_nil (h : Kd.S d e w base ok v []) : T f d e w base ok v [] n := by
 obtain ⟨_, h0, inner, ho, hr⟩ := h
 have hR : (Kd.tag f d).R e w base ok v ([] : List (α × Nat)) := ⟨h0, inner, ho, hr.1, fun j p hj => by cases j <;> cases hj⟩
 exact ⟨[], rfl, List.Pairwise.nil, fun q hq => absurd hq (List.not_mem_nil), hR⟩
theorem T_of_eq (he : xs = []) (h : Kd.S d e w base ok v xs) : T f d e w base ok v xs n := by
 subst he
 exact T_of_nil h
theorem T_S (h : T f d e w base ok v xs n) : Kd.S d e w base ok v xs := by
 obtain ⟨zs, a, b, c, h⟩ := h
 have := S_of_tag h b
 rwa [a] at this
theorem zip_getD (xs : List α) (z : α) (i : Nat) (h : i < xs.length) : xs.zipIdx.getD i (z, 0) = (xs.getD i z, i) := by
 rw [List.getD_eq_getElem?_getD, List.getElem?_zipIdx, List.getD_eq_getElem?_getD, List.getElem?_eq_getElem h]
 simp
end
section
variable {α : Type} {f : Nat → Nat} {P : Program} {ops : Array Oper} {rest : List Oper} {o : Oper} {a : Act} {Q : Exit → Act → World → Prop}
theorem T_append (d : Kd α) {w0 W : World} (base : Nat) (hgd : o.guard = none) (s x : Operand) (t e : TypeId) (z : Value) (bytes : Nat)
  (ho : o.op = .call { callee := .builtin .append, args := #[s, x], argTypes := #[t, t] })
  (ht : P.underlying t = some (.slice e)) (hinfo : (P.info? e).map (fun i => (i.zero, i.size, i.bytes)) = some (some z, d.sz, bytes)) (hz : z.cells.size = d.sz) (hs0 : 0 < d.sz) (hb0 : 0 < bytes)
  (v : Value) (xs : List α) (p : α) (cs : List Value) (ok okp : Nat → Prop) (hs : a.eval s = v) (hx : a.eval x = .slice (some ⟨W.heap.size, 0, none⟩) 1 1) {n : Int} (hn : 0 ≤ n) (hp : d.M W base (fun k => okp k ∧ f k = n.toNat) p cs) (hokp : ∀ k, okp k → ok k ∧ some k ≠ v.ownBlock) (hfresh : ∀ k, W.heap.size ≤ k → ok k)
  (HO : T f d e W base ok v xs n) (HB : Go.RowKit.Below base w0 W) (hbase : base ≤ W.heap.size) (hl : (xs.length + 1) * bytes ≤ 140737488355328)
  (h : ∀ v1 w1, T f d e w1 base ok v1 (xs ++ [p]) (n + 1) → Go.RowKit.Below base w0 w1 → W.grownBy w1 v.ownBlock → (v1.ownBlock = v.ownBlock ∨ ∃ b, v1.ownBlock = some b ∧ W.heap.size ≤ b) → wpList P ops Q rest (a.put o.dst v1) w1) :
  wpList P ops Q (o :: rest) a (W.alloc (.cells cs.toArray e)) := by
 obtain ⟨zs, e1, e2, e3, hr⟩ := HO
 refine Kd.R_append (Kd.tag f d) base hgd s x t e z bytes ho ht hinfo hz hs0 hb0 v zs (p, n.toNat) cs ok okp hs hx hp hokp hfresh hr HB hbase (by rw [← e1, List.length_map] at hl; exact hl) (fun v1 w1 h1 h2 h3 h4 => h v1 w1 ⟨zs ++ [(p, n.toNat)], ?_, ?_, ?_, h1⟩ h2 h3 h4)
 ·rw [List.map_append, e1]; rfl
 ·rw [List.map_append, List.nodup_append]
  refine ⟨e2, by simp, ?_⟩
  intro x hx y hy hxy
  obtain ⟨q, hq, rfl⟩ := List.mem_map.1 hx
  have h5 := e3 q hq
  have h6 : y = n.toNat := by simpa using hy
  omega
 ·intro q hq
  rcases List.mem_append.1 hq with hq | hq
  ·have := e3 q hq; omega
  ·rw [List.mem_singleton.1 hq]
   show ((n.toNat : Nat) : Int) < n + 1
   omega
end
theorem idx_up {α : Type} {d : Kd α} {e base : Nat} {w : World} {ok : Nat → Prop} {v : Value} {xs : List α} (h : d.R e w base ok v xs) {i : Int} (h0 : 0 ≤ i) (h1 : i < (xs.length : Int)) : i + 1 ≤ wrap64 (i + 1) := by
 obtain ⟨g, cap, cur, _, _, _, _, _, h2, h3, _⟩ := R_cells (Q := fun _ => True) h (fun _ _ => trivial) (by omega)
 have h4 : xs.length ≤ 2 ^ 63 - 1 := Nat.le_trans h2 h3
 have e : wrap64 (i + 1) = i + 1 := by unfold wrap64; omega
 rw [e]
 exact Int.le_refl _
theorem get_T {w : World} {base : Nat} {ok : Nat → Prop} {f : Nat → Nat} {ad : Addr} {cap : Nat} {xs : List S38} (h : (Kd.tag f k38).R 38 w base ok (.slice (some ad) xs.length cap) xs.zipIdx) (i : Int) (h0 : 0 ≤ i) (h1 : i < (xs.length : Int)) {u0 u1 : Value} (hx0 : w.cell? (ad.add (i.toNat * 2)) = some u0) (hx1 : w.cell? ⟨(ad.add (i.toNat * 2)).block, (ad.add (i.toNat * 2)).off + 1, none⟩ = some u1) :
  Kd.R (Kd.int .i64) 3 w base (fun k => ok k ∧ some k ≠ (Value.slice (some ad) xs.length cap).ownBlock) u0 (rd_T38 xs i).f0 ∧ Kd.R (Kd.int .i64) 3 w base (fun k => ok k ∧ some k ≠ (Value.slice (some ad) xs.length cap).ownBlock) u1 (rd_T38 xs i).f1 ∧ NeRow u0 u1 ∧ (∀ k, u0.ownBlock = some k → f k = i.toNat) ∧ (∀ k, u1.ownBlock = some k → f k = i.toNat) := by
 obtain ⟨c, hcl, hM, hc⟩ := Kd.R_getA h (z38, 0) i h0 h1
 rw [zip_getD xs z38 i.toNat (by omega)] at hM
 have hc' : ∀ j u, c[j]? = some u → w.cell? (ad.add (i.toNat * 2 + j)) = some u := hc
 have hM' : k38.M w base (fun k => (ok k ∧ some k ≠ (Value.slice (some ad) xs.length cap).ownBlock) ∧ f k = i.toNat) (rd_T38 xs i) c := hM
 obtain ⟨v0, v1, rfl, g0, g1, ne⟩ := k38_openN hM'
 have e0 := hc' 0 v0 rfl
 have e1 := hc' 1 v1 rfl
 rw [add_field _ _ 1 (by omega)] at e1
 rw [Nat.add_zero] at e0
 obtain rfl : u0 = v0 := Option.some.inj (hx0.symm.trans e0)
 obtain rfl : u1 = v1 := Option.some.inj (hx1.symm.trans e1)
 exact ⟨Kd.R_mono g0 (fun _ h => h.1), Kd.R_mono g1 (fun _ h => h.1), ne, fun k hk => (g0.1 k hk).2, fun k hk => (g1.1 k hk).2⟩
end TR
end Go.Proofs.YtoijcallajegfaaGreat.M
end
section
namespace Go.Proofs.YtoijcallajegfaaGreat.A
open Go.RowKit Go.Proofs.YtoijcallajegfaaGreatW.PrintWords Go.Proofs.YtoijcallajegfaaGreatW.PrintLast Go.Proofs.YtoijcallajegfaaGreatW.PrintMore
attribute [local go_sem] max2_int min2_int max_two min_two max_three min_three max_four min_four
set_option linter.unusedVariables false
set_option linter.unusedSimpArgs false
def Z5.l0 : Nat → List Int → List Int → Int → Int → Option (Bool)
 | 0, _, _, _, _ => none
 | k + 1, x0, x1, x12, x13 => if x13 < x12 then (if 0 ≤ x13 then (if x13 < (x0.length : Int) then (if x13 < (x1.length : Int) then (if (rd x0 x13) = (rd x1 x13) then (Z5.l0 k x0 x1 x12 (wrap64 (x13 + 1))) else (some false)) else (none)) else (none)) else (none)) else (some true)
def Z5.f (k : Nat) (l0 : List Int) (l1 : List Int) : Option (Bool) := if (l0.length : Int) = (l1.length : Int) then (Z5.l0 k l0 l1 (l0.length : Int) 0) else (some false)
theorem Z5.mono_l : ∀ k, (∀ y0 y1 y2 y3, LeO (Z5.l0 k y0 y1 y2 y3) (Z5.l0 (k + 1) y0 y1 y2 y3))
 | 0 => fun _ _ _ _ r h => by simp [Z5.l0] at h
 | k + 1 => by
  have ih0 := Z5.mono_l k
  ·intro y0 y1 y2 y3
   unfold Z5.l0
   repeat' first|exact ih0 _ _ _ _|exact lo_|refine LeO.ite ?_ ?_|refine LeO.bind ?_ (fun _ => ?_)
theorem Z5.mono : ∀ a0 a1 k, LeO (Z5.f k a0 a1) (Z5.f (k + 1) a0 a1) := by
 intro a0 a1 k
 have ih0 := Z5.mono_l k
 unfold Z5.f
 repeat' first|exact ih0 _ _ _ _|exact lo_|refine LeO.ite ?_ ?_|refine LeO.bind ?_ (fun _ => ?_)
set_option maxHeartbeats 8000000 in
set_option maxRecDepth 100000 in
theorem Z5.calls (k : Nat) (A0 : Option Addr) (c0 : Nat) (l0 : List Int) (A1 : Option Addr) (c1 : Nat) (l1 : List Int) (r : Bool) (w : World) (hr0 : Kd.C (Kd.int .i64) w A0 l0.length l0) (hc0 : l0.length ≤ c0) (hr1 : Kd.C (Kd.int .i64) w A1 l1.length l1) (hc1 : l1.length ≤ c1) (h : Z5.f k l0 l1 = some r) :
  Calls Tryz.prog 44 #[.slice A0 l0.length c0, .slice A1 l1.length c1] w fun e w' => e = .returned (.bool r) ∧ Drawn0 w w' := by
 have HR0 := A_ hr0
 have HC0 := A_ hc0
 clear hr0 hc0
 have HR1 := A_ hr1
 have HC1 := A_ hc1
 clear hr1 hc1
 have H := h
 unfold Z5.f at H
 clear h
 by_cases c3 : (l0.length : Int) = (l1.length : Int)
 ·rw [if_pos c3] at H
  have c3b0 : ((l0.length : Int) == (l1.length : Int)) = true := beq_iff_eq.mpr c3
  have c3b1 : ((l0.length : Int) != (l1.length : Int)) = false := bne_eq_false_iff_eq.mpr c3
  have c3b2 : (l0.length == l1.length) = true := by first | simpa using c3 | (simp at c3 ⊢; omega)
  clear c3
  have H' := A_ H
  clear H
  go_enter Tryz.func44, Tryz.ntmps44
  go_wp2
  repeat (go_quiet (fail); try go_wp2)
  go_loopg [13] k (fun kq v13 w' => ∃ (x13_1 : Int), v13 = .int .i64 x13_1 ∧ Aside0 (Z5.l0 kq l0 l1 (l0.length : Int) x13_1 = some r) ∧ Aside0 (kq ≤ k) ∧ Drawn0 w w')
  case atStart => exact ⟨(0), qc_, H', ⟨nA_ _⟩, by repeat (first | exact Drawn0.refl _ | apply Drawn0.step)⟩
  case round =>
   clear H'
   obtain ⟨x13_1, rfl, HA, HK1, ⟨m1, rfl⟩⟩ := hrel
   cases gk with
   | zero => exact absurd HA.out (by simp [Z5.l0])
   | succ k1 =>
    have H := HA.out
    clear HA
    simp only [Z5.l0] at H
    by_cases c4 : x13_1 < (l0.length : Int)
    ·rw [if_pos c4] at H
     have c4b0 := oC_ c4
     clear c4
     have c5 := cp_ H
     replace H := ca_ H
     have c5b0 := oC_ c5
     clear c5
     have c6 := cp_ H
     replace H := ca_ H
     have c6b0 := oC_ c6
     clear c6
     have c7 := cp_ H
     replace H := ca_ H
     have c7b0 := oC_ c7
     clear c7
     by_cases c8 : (rd l0 x13_1) = (rd l1 x13_1)
     ·rw [if_pos c8] at H
      have c8b0 : ((rd l0 x13_1) == (rd l1 x13_1)) = true := beq_iff_eq.mpr c8
      have c8b1 : ((rd l0 x13_1) != (rd l1 x13_1)) = false := bne_eq_false_iff_eq.mpr c8
      clear c8
      have H' := A_ H
      clear H
      have p563 : 0 ≤ (x13_1 : Int) := oB_ qe_
      have q563 : x13_1 < (l0.length : Int) := oB_ qe_
      obtain ⟨ad563, e563, hx563_0⟩ := Kd.at_int HR0.out x13_1 p563 q563
      cases e563
      replace p563 := eq_true p563
      replace q563 := eq_true q563
      have p564 : 0 ≤ (x13_1 : Int) := oB_ qe_
      have q564 : x13_1 < (l1.length : Int) := oB_ qe_
      obtain ⟨ad564, e564, hx564_0⟩ := Kd.at_int HR1.out x13_1 p564 q564
      cases e564
      replace p564 := eq_true p564
      replace q564 := eq_true q564
      go_wp2
      repeat (go_quiet (fail); try go_wp2)
      go_roundg k1
      case measure => have := HK1.out; omega
      case rel => exact ⟨(wrap64 (x13_1 + 1)), qc_, H', ⟨by have := HK1.out; omega⟩, by repeat (first | exact Drawn0.refl _ | apply Drawn0.step)⟩
     ·rw [if_neg c8] at H
      have c8b0 : ((rd l0 x13_1) == (rd l1 x13_1)) = false := beq_eq_false_iff_ne.mpr c8
      have c8b1 : ((rd l0 x13_1) != (rd l1 x13_1)) = true := bne_iff_ne.mpr c8
      obtain rfl := Option.some.inj H
      have p563 : 0 ≤ (x13_1 : Int) := oB_ qe_
      have q563 : x13_1 < (l0.length : Int) := oB_ qe_
      obtain ⟨ad563, e563, hx563_0⟩ := Kd.at_int HR0.out x13_1 p563 q563
      cases e563
      replace p563 := eq_true p563
      replace q563 := eq_true q563
      have p564 : 0 ≤ (x13_1 : Int) := oB_ qe_
      have q564 : x13_1 < (l1.length : Int) := oB_ qe_
      obtain ⟨ad564, e564, hx564_0⟩ := Kd.at_int HR1.out x13_1 p564 q564
      cases e564
      replace p564 := eq_true p564
      replace q564 := eq_true q564
      go_wp2
      repeat (go_quiet (fail); try go_wp2)
      go_ret
      exact ⟨qc_, by repeat (first | exact Drawn0.refl _ | apply Drawn0.step)⟩
    ·rw [if_neg c4] at H
     have c4b0 := oD_ c4
     clear c4
     obtain rfl := Option.some.inj H
     go_wp2
     repeat (go_quiet (fail); try go_wp2)
     go_ret
     exact ⟨qc_, by repeat (first | exact Drawn0.refl _ | apply Drawn0.step)⟩
 ·rw [if_neg c3] at H
  have c3b0 : ((l0.length : Int) == (l1.length : Int)) = false := beq_eq_false_iff_ne.mpr c3
  have c3b1 : ((l0.length : Int) != (l1.length : Int)) = true := bne_iff_ne.mpr c3
  have c3b2 : (l0.length == l1.length) = false := by first | simpa using c3 | (simp at c3 ⊢; omega)
  obtain rfl := Option.some.inj H
  go_enter Tryz.func44, Tryz.ntmps44
  go_wp2
  repeat (go_quiet (fail); try go_wp2)
  go_ret
  exact ⟨qc_, by repeat (first | exact Drawn0.refl _ | apply Drawn0.step)⟩
end Go.Proofs.YtoijcallajegfaaGreat.A
end
