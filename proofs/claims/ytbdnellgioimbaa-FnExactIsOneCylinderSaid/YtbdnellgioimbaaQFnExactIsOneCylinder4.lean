/- Lemmas for the row FnExactIsOneCylinder: the program's functions told as plain functions, and plain mathematics. No conditions. -/
import Derived.Test.YtbdnellgioimbaaQFnExactIsOneCylinder3
section
namespace Go.Proofs.Ytbdnellgioimbaa.A
open Go.RowKit Go.Proofs.YtbdnellgioimbaaW.PrintWords Go.Proofs.YtbdnellgioimbaaW.PrintLast Go.Proofs.YtbdnellgioimbaaW.PrintMore Go.Proofs.Ytbdnellgioimbaa.M
set_option linter.unusedVariables false
set_option linter.unusedSimpArgs false
def laws_FnExactIsOneCylinder.F (k : Nat) (l0_0 : List Int) (l0_1 : List Int) (a1 : Int) (a2 : Int) : Prop := ∃ s0 : Int, laws_szSurface.f l0_0 l0_1 1048576 = some s0 ∧ (s0 < 0 ∨ (¬ s0 < 0 ∧ (∃ (r0 : Bool), laws_toSurface.f k l0_0 l0_1 = some (l0_0, l0_1) ∧ laws_eqSurface.f k l0_0 l0_1 l0_0 l0_1 = some true ∧ spec_IsOneCylinder.f k l0_0 l0_1 a1 a2 = some r0 ∧ impl_IsOneCylinder.f k l0_0 l0_1 a1 a2 = some r0)))
set_option maxHeartbeats 8000000 in
set_option maxRecDepth 100000 in
theorem laws_FnExactIsOneCylinder.calls (k : Nat) (A0_0 : Option Addr) (c0_0 : Nat) (l0_0 : List Int) (A0_1 : Option Addr) (c0_1 : Nat) (l0_1 : List Int) (a1 : Int) (a2 : Int) (w : World) (hr0_0 : Kd.C (Kd.int .i64) w A0_0 l0_0.length l0_0) (hc0_0 : l0_0.length ≤ c0_0) (hr0_1 : Kd.C (Kd.int .i64) w A0_1 l0_1.length l0_1) (hc0_1 : l0_1.length ≤ c0_1) (h : laws_FnExactIsOneCylinder.F k l0_0 l0_1 a1 a2) :
    Calls Try.prog 12 #[.agg #[.slice A0_0 l0_0.length c0_0, .slice A0_1 l0_1.length c0_1], .int .i64 a1, .int .i64 a2] w fun e w' => e = .returned (.bool true) ∧ Below w.heap.size w w' := by
  have hu24 := Try.underlying24
  have hu27 := Try.underlying27
  have HR0_0 := Aside0.mk hr0_0; have HC0_0 := Aside0.mk hc0_0; clear hr0_0 hc0_0
  have HR0_1 := Aside0.mk hr0_1; have HC0_1 := Aside0.mk hc0_1; clear hr0_1 hc0_1
  have HB := Aside0.mk (Below.refl w.heap.size w)
  unfold laws_FnExactIsOneCylinder.F at h
  obtain ⟨s0, FZ0, h⟩ := h
  replace FZ0 := Aside0.mk FZ0
  rcases h with hneg | ⟨hneg, h⟩
  · have hq0 : decide (s0 < 0) = true := decide_eq_true hneg
    go_enter Try.func12, Try.ntmps12
    go_upto_region 2 with (first | ((with_reducible refine gate_dst (N := 3) rfl ?_); refine bx_ 3 #[.slice A0_0 l0_0.length c0_0, .slice A0_1 l0_1.length c0_1] 24 ?_; intro gbp0 hg w1 hbox hb; have HBo := HB.out; have n_ := Aside0.mk (below_then HBo HBo.size hb); clear HB; have HB := n_; clear n_; have HSw1 := Aside0.mk hb.size; have BKp0 := Aside0.mk hbox; have GIp0 := Aside0.mk (show w.heap.size ≤ gbp0 ∧ gbp0 < w1.heap.size from ⟨by omega, blk_lt hbox⟩); have GEp0 := Aside0.mk (show w.heap.size ≤ gbp0 from by have := HBo.size; omega); clear hb hbox hg HBo; obtain ⟨hczp0_0, hczp0_1, hfzp0_0, hfzp0_1⟩ := c2_ BKp0))
    go_wp2_with (first | ((with_reducible refine gate_callee (f := 14) rfl ?_); refine goesL_ _ rfl rfl Try.func14 (by kernel_rfl) rfl #[.agg #[.slice A0_0 l0_0.length c0_0, .slice A0_1 l0_1.length c0_1], .int .i64 1048576] rfl (by (try simp only [List.map_toArray, List.map_cons, List.map_nil]); first | done | rfl) ?_; have HBo := HB.out; refine (laws_szSurface.calls A0_0 c0_0 l0_0 A0_1 c0_1 l0_1 1048576 s0 _ (Kd.C_below HR0_0.out HB.out) HC0_0.out (Kd.C_below HR0_1.out HB.out) HC0_1.out FZ0.out).mono ?_; rintro e w2 ⟨rfl, hb0⟩; refine ⟨_, rfl, ?_⟩; clear hczp0_0 hfzp0_0 hczp0_1 hfzp0_1; have n_ := Aside0.mk (blk_below BKp0.out hb0); clear BKp0; have BKp0 := n_; clear n_; have n_ := Aside0.mk (below_then HBo HBo.size hb0); clear HB; have HB := n_; clear n_; have HSw2 := Aside0.mk hb0.size; clear hb0 HBo; obtain ⟨hczp0_0, hczp0_1, hfzp0_0, hfzp0_1⟩ := c2_ BKp0))
    go_ret
    exact ⟨rfl, HB.out⟩
  have hq0 : decide (s0 < 0) = false := decide_eq_false hneg
  clear hneg
  obtain ⟨r0, FS0, FE0, FW, FG⟩ := h
  replace FS0 := Aside0.mk FS0
  replace FE0 := Aside0.mk FE0
  replace FW := Aside0.mk FW
  replace FG := Aside0.mk FG
  go_enter Try.func12, Try.ntmps12
  go_upto_region 2 with (first | ((with_reducible refine gate_dst (N := 3) rfl ?_); refine bx_ 3 #[.slice A0_0 l0_0.length c0_0, .slice A0_1 l0_1.length c0_1] 24 ?_; intro gbp0 hg w1 hbox hb; have HBo := HB.out; have n_ := Aside0.mk (below_then HBo HBo.size hb); clear HB; have HB := n_; clear n_; have HSw1 := Aside0.mk hb.size; have BKp0 := Aside0.mk hbox; have GIp0 := Aside0.mk (show w.heap.size ≤ gbp0 ∧ gbp0 < w1.heap.size from ⟨by omega, blk_lt hbox⟩); have GEp0 := Aside0.mk (show w.heap.size ≤ gbp0 from by have := HBo.size; omega); clear hb hbox hg HBo; obtain ⟨hczp0_0, hczp0_1, hfzp0_0, hfzp0_1⟩ := c2_ BKp0))
  go_upto_region 5 with (first | ((with_reducible refine gate_callee (f := 14) rfl ?_); refine goesL_ _ rfl rfl Try.func14 (by kernel_rfl) rfl #[.agg #[.slice A0_0 l0_0.length c0_0, .slice A0_1 l0_1.length c0_1], .int .i64 1048576] rfl (by (try simp only [List.map_toArray, List.map_cons, List.map_nil]); first | done | rfl) ?_; have HBo := HB.out; refine (laws_szSurface.calls A0_0 c0_0 l0_0 A0_1 c0_1 l0_1 1048576 s0 _ (Kd.C_below HR0_0.out HB.out) HC0_0.out (Kd.C_below HR0_1.out HB.out) HC0_1.out FZ0.out).mono ?_; rintro e w2 ⟨rfl, hb0⟩; refine ⟨_, rfl, ?_⟩; clear hczp0_0 hfzp0_0 hczp0_1 hfzp0_1; have n_ := Aside0.mk (blk_below BKp0.out hb0); clear BKp0; have BKp0 := n_; clear n_; have n_ := Aside0.mk (below_then HBo HBo.size hb0); clear HB; have HB := n_; clear n_; have HSw2 := Aside0.mk hb0.size; clear hb0 HBo; obtain ⟨hczp0_0, hczp0_1, hfzp0_0, hfzp0_1⟩ := c2_ BKp0))
  go_upto_region 6 with (first | ((with_reducible refine gate_callee (f := 16) rfl ?_); refine goesL_ _ rfl rfl Try.func16 (by kernel_rfl) rfl #[.agg #[.slice A0_0 l0_0.length c0_0, .slice A0_1 l0_1.length c0_1]] rfl (by (try simp only [List.map_toArray, List.map_cons, List.map_nil]); first | done | rfl) ?_; have HBo := HB.out; refine (laws_toSurface.calls k A0_0 c0_0 l0_0 A0_1 c0_1 l0_1 l0_0 l0_1 _ (Kd.C_below HR0_0.out HB.out) HC0_0.out (Kd.C_below HR0_1.out HB.out) HC0_1.out FS0.out).mono ?_; rintro e w3 ⟨v0_, v1_, rfl, h0_, h1_, hb0⟩; refine ⟨_, rfl, ?_⟩; clear hczp0_0 hfzp0_0 hczp0_1 hfzp0_1; have n_ := Aside0.mk (blk_below BKp0.out hb0); clear BKp0; have BKp0 := n_; clear n_; have n_ := Aside0.mk (below_then HBo HBo.size hb0); clear HB; have HB := n_; clear n_; have HSw3 := Aside0.mk hb0.size; have NE1 := Aside0.mk h0_.1; have Hx1a := Aside0.mk (fresh_R (b0 := w.heap.size) h0_ HBo.size); clear h0_; obtain ⟨Ax1a, cx1a, ex1a⟩ := Kd.R_slice Hx1a.out; subst ex1a; have Hx1b := Aside0.mk (fresh_R (b0 := w.heap.size) h1_ HBo.size); clear h1_; obtain ⟨Ax1b, cx1b, ex1b⟩ := Kd.R_slice Hx1b.out; subst ex1b; clear hb0 HBo; obtain ⟨hczp0_0, hczp0_1, hfzp0_0, hfzp0_1⟩ := c2_ BKp0) | ((with_reducible refine gate_callee (f := 47) rfl ?_); refine goesL_ _ rfl rfl Try.func47 (by kernel_rfl) rfl #[.agg #[.slice Ax1a l0_0.length cx1a, .slice Ax1b l0_1.length cx1b], .int .i64 a1, .int .i64 a2] rfl (by (try simp only [List.map_toArray, List.map_cons, List.map_nil]); first | done | rfl) ?_; have HBo := HB.out; refine (spec_IsOneCylinder.calls k Ax1a cx1a l0_0 Ax1b cx1b l0_1 a1 a2 r0 _ (Kd.R_reads' Hx1a.out).2.2 (Kd.R_reads' Hx1a.out).2.1 (Kd.R_reads' Hx1b.out).2.2 (Kd.R_reads' Hx1b.out).2.1 FW.out).mono ?_; rintro e w4 ⟨rfl, hb0⟩; refine ⟨_, rfl, ?_⟩; clear hczp0_0 hfzp0_0 hczp0_1 hfzp0_1; have n_ := Aside0.mk (blk_below BKp0.out hb0); clear BKp0; have BKp0 := n_; clear n_; have n_ := Aside0.mk (Kd.R_below Hx1a.out hb0); clear Hx1a; have Hx1a := n_; clear n_; have n_ := Aside0.mk (Kd.R_below Hx1b.out hb0); clear Hx1b; have Hx1b := n_; clear n_; have n_ := Aside0.mk (below_then HBo HBo.size hb0); clear HB; have HB := n_; clear n_; have HSw4 := Aside0.mk hb0.size; clear hb0 HBo; obtain ⟨hczp0_0, hczp0_1, hfzp0_0, hfzp0_1⟩ := c2_ BKp0; clear Hx1a Hx1b))
  go_upto_region 7 with (first | ((with_reducible refine gate_callee (f := 16) rfl ?_); refine goesL_ _ rfl rfl Try.func16 (by kernel_rfl) rfl #[.agg #[.slice A0_0 l0_0.length c0_0, .slice A0_1 l0_1.length c0_1]] rfl (by (try simp only [List.map_toArray, List.map_cons, List.map_nil]); first | done | rfl) ?_; have HBo := HB.out; refine (laws_toSurface.calls k A0_0 c0_0 l0_0 A0_1 c0_1 l0_1 l0_0 l0_1 _ (Kd.C_below HR0_0.out HB.out) HC0_0.out (Kd.C_below HR0_1.out HB.out) HC0_1.out FS0.out).mono ?_; rintro e w5 ⟨v0_, v1_, rfl, h0_, h1_, hb0⟩; refine ⟨_, rfl, ?_⟩; clear hczp0_0 hfzp0_0 hczp0_1 hfzp0_1; have n_ := Aside0.mk (blk_below BKp0.out hb0); clear BKp0; have BKp0 := n_; clear n_; have n_ := Aside0.mk (below_then HBo HBo.size hb0); clear HB; have HB := n_; clear n_; have HSw5 := Aside0.mk hb0.size; have NE2 := Aside0.mk h0_.1; have Hx2a := Aside0.mk (fresh_R (b0 := w.heap.size) h0_ HBo.size); clear h0_; obtain ⟨Ax2a, cx2a, ex2a⟩ := Kd.R_slice Hx2a.out; subst ex2a; have Hx2b := Aside0.mk (fresh_R (b0 := w.heap.size) h1_ HBo.size); clear h1_; obtain ⟨Ax2b, cx2b, ex2b⟩ := Kd.R_slice Hx2b.out; subst ex2b; clear hb0 HBo; obtain ⟨hczp0_0, hczp0_1, hfzp0_0, hfzp0_1⟩ := c2_ BKp0) | ((with_reducible refine gate_dst (N := 9) rfl ?_); refine bx_ 9 #[.slice none 0 0, .slice none 0 0] 27 ?_; intro gbx0 hg w6 hbox hb; clear hczp0_0 hfzp0_0 hczp0_1 hfzp0_1; have HBo := HB.out; have n_ := Aside0.mk (blk_below BKp0.out hb); clear BKp0; have BKp0 := n_; clear n_; have n_ := Aside0.mk (Kd.R_below Hx2a.out hb); clear Hx2a; have Hx2a := n_; clear n_; have n_ := Aside0.mk (Kd.R_below Hx2b.out hb); clear Hx2b; have Hx2b := n_; clear n_; have n_ := Aside0.mk (below_then HBo HBo.size hb); clear HB; have HB := n_; clear n_; have HSw6 := Aside0.mk hb.size; have BKx0 := Aside0.mk hbox; have GIx0 := Aside0.mk (show w5.heap.size ≤ gbx0 ∧ gbx0 < w6.heap.size from ⟨by omega, blk_lt hbox⟩); have GEx0 := Aside0.mk (show w.heap.size ≤ gbx0 from by have := HBo.size; omega); clear hb hbox hg HBo; obtain ⟨hczp0_0, hczp0_1, hfzp0_0, hfzp0_1⟩ := c2_ BKp0; obtain ⟨hczx0_0, hczx0_1, hfzx0_0, hfzx0_1⟩ := c2_ BKx0) | ((with_reducible refine gate_store (t := 27) (p := 9) rfl ?_); refine store_event (t := 27) (p := 9) (v := ?vo) (w1 := ((w6.setCell ⟨gbx0, 0, none⟩ (.slice Ax2a l0_0.length cx2a)).setCell ⟨gbx0, 1, none⟩ (.slice Ax2b l0_1.length cx2b))) ?hg ?ho ?hn ?hr ?_; (case ho => rfl); (case hg => rfl); (case hn => rfl); (case hr => first | (go_simp; done) | (go_simp; rfl)); intro wq hw; subst hw; obtain ⟨hbox, hkp, hB2⟩ := box_store BKx0.out (.slice Ax2a l0_0.length cx2a) (.slice Ax2b l0_1.length cx2b) HB.out GEx0.out; generalize hw : ((w6.setCell ⟨gbx0, 0, none⟩ (.slice Ax2a l0_0.length cx2a)).setCell ⟨gbx0, 1, none⟩ (.slice Ax2b l0_1.length cx2b)) = w7 at hbox hkp hB2 ⊢; clear hw; clear hczp0_0 hfzp0_0 hczp0_1 hfzp0_1 hczx0_0 hfzx0_0 hczx0_1 hfzx0_1; have n_ := Aside0.mk (blk_kept (g := gbp0) BKp0.out hkp (fun hs => by have hk := GIp0.out; have := hk.1; have := hk.2; have := GIx0.out; have := HSw1.out; have := HSw2.out; have := HSw3.out; have := HSw4.out; have := HSw5.out; have := HSw6.out; omega)); clear BKp0; have BKp0 := n_; clear n_; have n_ := Aside0.mk (Kd.R_kept Hx2a.out hkp (fun k_ hk hs => by have := hk.1; have := hk.2; have := GIx0.out; have := HSw1.out; have := HSw2.out; have := HSw3.out; have := HSw4.out; have := HSw5.out; have := HSw6.out; omega)); clear Hx2a; have Hx2a := n_; clear n_; have n_ := Aside0.mk (Kd.R_kept Hx2b.out hkp (fun k_ hk hs => by have := hk.1; have := hk.2; have := GIx0.out; have := HSw1.out; have := HSw2.out; have := HSw3.out; have := HSw4.out; have := HSw5.out; have := HSw6.out; omega)); clear Hx2b; have Hx2b := n_; clear n_; have n_ := Aside0.mk (hB2); clear HB; have HB := n_; clear n_; have HSw7 := Aside0.mk hkp.1; clear BKx0; have BKx0 := Aside0.mk (show w7.heap[gbx0]? = some (.cells #[.slice Ax2a l0_0.length cx2a, .slice Ax2b l0_1.length cx2b] 27 (0, 0)) from hbox); clear hbox hkp hB2; obtain ⟨hczp0_0, hczp0_1, hfzp0_0, hfzp0_1⟩ := c2_ BKp0; obtain ⟨hczx0_0, hczx0_1, hfzx0_0, hfzx0_1⟩ := c2_ BKx0))
  go_upto_region 10 with (first | ((with_reducible refine gate_callee (f := 48) rfl ?_); refine goesL_ _ rfl rfl Try.func48 (by kernel_rfl) rfl #[.agg #[.slice Ax2a l0_0.length cx2a, .slice Ax2b l0_1.length cx2b], .int .i64 a1, .int .i64 a2] rfl (by (try simp only [List.map_toArray, List.map_cons, List.map_nil]); first | done | rfl) ?_; have HBo := HB.out; refine (impl_IsOneCylinder.calls k Ax2a cx2a l0_0 Ax2b cx2b l0_1 a1 a2 r0 _ (Kd.R_reads' Hx2a.out).2.2 (Kd.R_reads' Hx2a.out).2.1 (Kd.R_reads' Hx2b.out).2.2 (Kd.R_reads' Hx2b.out).2.1 FG.out).mono ?_; rintro e w8 ⟨rfl, hb0⟩; refine ⟨_, rfl, ?_⟩; clear hczp0_0 hfzp0_0 hczp0_1 hfzp0_1 hczx0_0 hfzx0_0 hczx0_1 hfzx0_1; have n_ := Aside0.mk (blk_below BKp0.out hb0); clear BKp0; have BKp0 := n_; clear n_; have n_ := Aside0.mk (Kd.R_below Hx2a.out hb0); clear Hx2a; have Hx2a := n_; clear n_; have n_ := Aside0.mk (Kd.R_below Hx2b.out hb0); clear Hx2b; have Hx2b := n_; clear n_; have n_ := Aside0.mk (blk_below BKx0.out hb0); clear BKx0; have BKx0 := n_; clear n_; have n_ := Aside0.mk (below_then HBo HBo.size hb0); clear HB; have HB := n_; clear n_; have HSw8 := Aside0.mk hb0.size; clear hb0 HBo; obtain ⟨hczp0_0, hczp0_1, hfzp0_0, hfzp0_1⟩ := c2_ BKp0; obtain ⟨hczx0_0, hczx0_1, hfzx0_0, hfzx0_1⟩ := c2_ BKx0))
  clear hczp0_0 hfzp0_0 hczp0_1 hfzp0_1 hczx0_0 hfzx0_0 hczx0_1 hfzx0_1
  have n_ := Aside0.mk (blk_drew BKp0.out)
  clear BKp0
  have BKp0 := n_
  clear n_
  have n_ := Aside0.mk (Kd.R_drew Hx2a.out)
  clear Hx2a
  have Hx2a := n_
  clear n_
  have n_ := Aside0.mk (Kd.R_drew Hx2b.out)
  clear Hx2b
  have Hx2b := n_
  clear n_
  have n_ := Aside0.mk (blk_drew BKx0.out)
  clear BKx0
  have BKx0 := n_
  clear n_
  have n_ := Aside0.mk (below_drew1 HB.out)
  clear HB
  have HB := n_
  clear n_
  have HSw10 := Aside0.mk (show w8.heap.size ≤ w8.drew.heap.size from Nat.le_refl _)
  refine start_ (n := 5) (S := fun w' => w'.cell? ⟨gbp0, 0, none⟩ = some (.slice A0_0 l0_0.length c0_0) ∧ w'.cell? ⟨gbp0, 1, none⟩ = some (.slice A0_1 l0_1.length c0_1) ∧ w'.cell? ⟨gbx0, 0, none⟩ = some (.slice Ax2a l0_0.length cx2a) ∧ w'.cell? ⟨gbx0, 1, none⟩ = some (.slice Ax2b l0_1.length cx2b)) (ds := []) (bl_ 5 0) (by kernel_rfl) rfl (by kernel_rfl) ⟨cz0_ BKp0, cz1_ BKp0, cz0_ BKx0, cz1_ BKx0⟩ (fun hHeld => ?_)
  generalize hwd : w8.drew = w10 at BKp0 Hx2a Hx2b BKx0 HB HSw10 hHeld ⊢
  clear hwd
  refine take_ (i := 0) (N := some 30) (v := ?_) (a' := ?_) (bl_ 5 1) rfl rfl (by kernel_rfl) (fun _ _ _ h => h) (Or.inl ⟨by rfl, ?_⟩) hHeld ?_ ?_
  rotate_left
  · rintro w' ⟨s0, s1, s2, s3⟩
    go_simp
    with_reducible rfl
  rotate_left
  · simp only [Act.put, List.setIfInBounds_toArray, List.set_cons_zero, List.set_cons_succ, i64_w, i32_w]
    rfl
  refine take_ (i := 1) (N := some 31) (v := ?_) (a' := ?_) (bl_ 5 3) rfl rfl (by kernel_rfl) (fun _ _ _ h => h) (Or.inl ⟨by rfl, ?_⟩) hHeld ?_ ?_
  rotate_left
  · rintro w' ⟨s0, s1, s2, s3⟩
    go_simp
    with_reducible rfl
  rotate_left
  · simp only [Act.put, List.setIfInBounds_toArray, List.set_cons_zero, List.set_cons_succ, i64_w, i32_w]
    rfl
  refine one_ (i := 2) (N := some 32) (bl_ 5 7) rfl rfl (by kernel_rfl) (by decide) (fun K hK => ?_)
  replace hK := Aside0.mk hK
  refine gO_ Try.func16 #[.agg #[.slice A0_0 l0_0.length c0_0, .slice A0_1 l0_1.length c0_1]] (by rfl) rfl rfl (by (try simp only [List.map_toArray, List.map_cons, List.map_nil]); first | done | rfl) ?_
  have HBo := HB.out
  refine (laws_toSurface.calls k A0_0 c0_0 l0_0 A0_1 c0_1 l0_1 l0_0 l0_1 _ (Kd.C_below HR0_0.out HB.out) HC0_0.out (Kd.C_below HR0_1.out HB.out) HC0_1.out FS0.out).mono ?_
  rintro e w11 ⟨v0_, v1_, rfl, h0_, h1_, hb0⟩
  refine ⟨_, rfl, ?_⟩
  clear hHeld
  have n_ := Aside0.mk (blk_below BKp0.out hb0)
  clear BKp0
  have BKp0 := n_
  clear n_
  have n_ := Aside0.mk (Kd.R_below Hx2a.out hb0)
  clear Hx2a
  have Hx2a := n_
  clear n_
  have n_ := Aside0.mk (Kd.R_below Hx2b.out hb0)
  clear Hx2b
  have Hx2b := n_
  clear n_
  have n_ := Aside0.mk (blk_below BKx0.out hb0)
  clear BKx0
  have BKx0 := n_
  clear n_
  have n_ := Aside0.mk (below_then HBo HBo.size hb0)
  clear HB
  have HB := n_
  clear n_
  have HSw11 := Aside0.mk hb0.size
  have NE3 := Aside0.mk h0_.1
  have Hx3a := Aside0.mk (fresh_R (b0 := w.heap.size) h0_ HBo.size)
  clear h0_
  obtain ⟨Ax3a, cx3a, ex3a⟩ := Kd.R_slice Hx3a.out
  subst ex3a
  have Hx3b := Aside0.mk (fresh_R (b0 := w.heap.size) h1_ HBo.size)
  clear h1_
  obtain ⟨Ax3b, cx3b, ex3b⟩ := Kd.R_slice Hx3b.out
  subst ex3b
  clear hb0 HBo
  refine hK.out _ _ ⟨cz0_ BKp0, cz1_ BKp0, cz0_ BKx0, cz1_ BKx0⟩ (fun hHeld => ?_)
  clear hK K
  refine no_ (some 32) ?_
  refine one_ (i := 3) (N := some 33) (bl_ 5 15) rfl rfl (by kernel_rfl) (by decide) (fun K hK => ?_)
  replace hK := Aside0.mk hK
  refine gO_ Try.func18 #[.agg #[.slice Ax2a l0_0.length cx2a, .slice Ax2b l0_1.length cx2b], .agg #[.slice Ax3a l0_0.length cx3a, .slice Ax3b l0_1.length cx3b]] (by rfl) rfl rfl (by (try simp only [List.map_toArray, List.map_cons, List.map_nil]); first | done | rfl) ?_
  have HBo := HB.out
  refine (laws_eqSurface.calls k Ax2a cx2a l0_0 Ax2b cx2b l0_1 Ax3a cx3a l0_0 Ax3b cx3b l0_1 true _ (Kd.R_reads' Hx2a.out).2.2 (Kd.R_reads' Hx2a.out).2.1 (Kd.R_reads' Hx2b.out).2.2 (Kd.R_reads' Hx2b.out).2.1 (Kd.R_reads' Hx3a.out).2.2 (Kd.R_reads' Hx3a.out).2.1 (Kd.R_reads' Hx3b.out).2.2 (Kd.R_reads' Hx3b.out).2.1 FE0.out).mono ?_
  rintro e w12 ⟨rfl, hb0⟩
  refine ⟨_, rfl, ?_⟩
  clear hHeld
  have n_ := Aside0.mk (blk_below BKp0.out hb0)
  clear BKp0
  have BKp0 := n_
  clear n_
  have n_ := Aside0.mk (Kd.R_below Hx2a.out hb0)
  clear Hx2a
  have Hx2a := n_
  clear n_
  have n_ := Aside0.mk (Kd.R_below Hx2b.out hb0)
  clear Hx2b
  have Hx2b := n_
  clear n_
  have n_ := Aside0.mk (blk_below BKx0.out hb0)
  clear BKx0
  have BKx0 := n_
  clear n_
  have n_ := Aside0.mk (Kd.R_below Hx3a.out hb0)
  clear Hx3a
  have Hx3a := n_
  clear n_
  have n_ := Aside0.mk (Kd.R_below Hx3b.out hb0)
  clear Hx3b
  have Hx3b := n_
  clear n_
  have n_ := Aside0.mk (below_then HBo HBo.size hb0)
  clear HB
  have HB := n_
  clear n_
  have HSw12 := Aside0.mk hb0.size
  clear hb0 HBo
  refine hK.out _ _ ⟨cz0_ BKp0, cz1_ BKp0, cz0_ BKx0, cz1_ BKx0⟩ (fun hHeld => ?_)
  clear hK K
  refine no_ (some 33) ?_
  refine pure_ (i := 4) (N := some 34) (v := ?_) (a' := ?_) (bl_ 5 31) rfl rfl (by kernel_rfl) (fun _ _ _ h => h) (Or.inl ⟨by rfl, ?_⟩) ?_ ?_
  rotate_left
  · intro w'
    go_simp
    with_reducible rfl
  rotate_left
  · simp only [Act.put, List.setIfInBounds_toArray, List.set_cons_zero, List.set_cons_succ, i64_w, i32_w]
    rfl
  refine done_ (by kernel_rfl) ?_
  clear hHeld
  obtain ⟨hczp0_0, hczp0_1, hfzp0_0, hfzp0_1⟩ := c2_ BKp0
  obtain ⟨hczx0_0, hczx0_1, hfzx0_0, hfzx0_1⟩ := c2_ BKx0
  clear Hx3a Hx3b
  go_wp2
  go_ret
  exact ⟨rfl, HB.out⟩
end Go.Proofs.Ytbdnellgioimbaa.A
end
section
/- Plain mathematics: permutations as lists of numbers. No conditions. -/
namespace Go.Proofs.Ytbdnellgioimbaa.M
set_option linter.unusedVariables false
set_option linter.unusedSimpArgs false
def I (l : List Nat) : List Int := l.map Int.ofNat
def g (p : List Nat) (i : Nat) : Nat := p.getD i 0
def tab (n : Nat) (f : Nat → Nat) : List Nat := (List.range n).map f
theorem I_len (l : List Nat) : (I l).length = l.length := by simp [I]
theorem I_inj {a b : List Nat} (h : I a = I b) : a = b := by
  unfold I at h
  exact (List.map_inj_right (fun x y hxy => Int.ofNat.inj hxy)).mp h
theorem tab_len (n : Nat) (f : Nat → Nat) : (tab n f).length = n := by simp [tab]
theorem g_tab {n : Nat} {f : Nat → Nat} {i : Nat} (h : i < n) : g (tab n f) i = f i := by simp [g, tab, List.getD_eq_getElem?_getD, h]
theorem g_get {p : List Nat} {i : Nat} (h : i < p.length) : g p i = p[i] := by simp [g, List.getD_eq_getElem?_getD, h]
theorem g_mem {p : List Nat} {i : Nat} (h : i < p.length) : g p i ∈ p := by rw [g_get h]; exact List.getElem_mem h
theorem mem_g {p : List Nat} {x : Nat} (h : x ∈ p) : ∃ i, i < p.length ∧ g p i = x := by
  obtain ⟨i, hi, rfl⟩ := List.mem_iff_getElem.mp h
  exact ⟨i, hi, g_get hi⟩
theorem ext_g {a b : List Nat} (hl : a.length = b.length) (h : ∀ i, i < a.length → g a i = g b i) : a = b := by
  apply List.ext_getElem hl
  intro i h1 h2
  rw [← g_get h1, ← g_get h2]
  exact h i h1
theorem tab_ext {n : Nat} {f f' : Nat → Nat} (h : ∀ i, i < n → f i = f' i) : tab n f = tab n f' :=
  ext_g (by simp [tab_len]) (fun i hi => by rw [tab_len] at hi; rw [g_tab hi, g_tab hi, h i hi])
theorem eq_tab {l : List Nat} {n : Nat} {f : Nat → Nat} (hl : l.length = n) (h : ∀ i, i < n → g l i = f i) : l = tab n f :=
  ext_g (by rw [tab_len, hl]) (fun i hi => by rw [hl] at hi; rw [g_tab hi, h i hi])
theorem g_set {p : List Nat} {i x j : Nat} (h : i < p.length) : g (p.set i x) j = if i = j then x else g p j := by
  unfold g
  rw [List.getD_eq_getElem?_getD, List.getD_eq_getElem?_getD, List.getElem?_set]
  by_cases e : i = j
  · subst e
    simp [h]
  · simp [e]
theorem I_set (p : List Nat) (i x : Nat) : (I p).set i (x : Int) = I (p.set i x) := by simp [I, List.map_set]
theorem I_snoc (p : List Nat) (x : Nat) : I p ++ [(x : Int)] = I (p ++ [x]) := by simp [I]
theorem I_rep (n x : Nat) : I (List.replicate n x) = List.replicate n (x : Int) := by simp [I]
structure IsP (p : List Nat) : Prop where
  lt : ∀ x ∈ p, x < p.length
  nd : p.Nodup
instance (p : List Nat) : Decidable (IsP p) := decidable_of_iff ((∀ x ∈ p, x < p.length) ∧ p.Nodup) ⟨fun h => ⟨h.1, h.2⟩, fun h => ⟨h.lt, h.nd⟩⟩
theorem nodup_le (n : Nat) : ∀ l : List Nat, l.Nodup → (∀ x ∈ l, x < n) → l.length ≤ n := by
  induction n with
  | zero =>
    intro l _ h
    cases l with
    | nil => simp
    | cons a l => exact absurd (h a (by simp)) (by omega)
  | succ n ih =>
    intro l hn h
    have h1 := ih (l.erase n) (hn.erase n) (fun x hx => by
      have h2 := (List.Nodup.mem_erase_iff hn).mp hx
      have h3 := h x h2.2
      have h4 := h2.1
      omega)
    have h5 := @List.length_erase _ _ _ n l
    split at h5 <;> omega
theorem mem_all {p : List Nat} (hp : IsP p) {x : Nat} (h : x < p.length) : x ∈ p := by
  apply Classical.byContradiction
  intro hx
  have := nodup_le p.length (x :: p) (List.nodup_cons.mpr ⟨hx, hp.nd⟩) (fun y hy => by
    rcases List.mem_cons.mp hy with rfl | hy
    · exact h
    · exact hp.lt y hy)
  simp at this
  omega
theorem g_lt {p : List Nat} (hp : IsP p) {i : Nat} (h : i < p.length) : g p i < p.length := hp.lt _ (g_mem h)
theorem g_inj {p : List Nat} (hp : IsP p) {i j : Nat} (hi : i < p.length) (hj : j < p.length) (h : g p i = g p j) : i = j := by
  rw [g_get hi, g_get hj] at h
  have hw := List.pairwise_iff_getElem.mp hp.nd
  rcases Nat.lt_trichotomy i j with hij | hij | hij
  · exact absurd h (hw i j hi hj hij)
  · exact hij
  · exact absurd h.symm (hw j i hj hi hij)
def ix (p : List Nat) (x : Nat) : Nat := p.idxOf x
theorem ix_lt {p : List Nat} (hp : IsP p) {x : Nat} (h : x < p.length) : ix p x < p.length := List.idxOf_lt_length_of_mem (mem_all hp h)
theorem g_ix {p : List Nat} (hp : IsP p) {x : Nat} (h : x < p.length) : g p (ix p x) = x := by
  rw [g_get (ix_lt hp h)]
  exact List.getElem_idxOf (ix_lt hp h)
theorem ix_g {p : List Nat} (hp : IsP p) {i : Nat} (h : i < p.length) : ix p (g p i) = i :=
  g_inj hp (ix_lt hp (g_lt hp h)) h (g_ix hp (g_lt hp h))
theorem isP_mk {p : List Nat} (h1 : ∀ i, i < p.length → g p i < p.length) (h2 : ∀ i j, i < p.length → j < p.length → g p i = g p j → i = j) : IsP p := by
  refine ⟨fun x hx => ?_, ?_⟩
  · obtain ⟨i, hi, rfl⟩ := mem_g hx
    exact h1 i hi
  · refine List.pairwise_iff_getElem.mpr ?_
    intro i j hi hj hij e'
    rw [← g_get hi, ← g_get hj] at e'
    have := h2 i j hi hj e'
    omega
theorem isP_tab {n : Nat} {f : Nat → Nat} (h1 : ∀ i, i < n → f i < n) (h2 : ∀ i j, i < n → j < n → f i = f j → i = j) : IsP (tab n f) := by
  refine isP_mk (fun i hi => ?_) (fun i j hi hj e => ?_)
  · rw [tab_len] at hi ⊢; rw [g_tab hi]; exact h1 i hi
  · rw [tab_len] at hi hj; rw [g_tab hi, g_tab hj] at e; exact h2 i j hi hj e
def inv (p : List Nat) : List Nat := tab p.length (ix p)
theorem inv_len (p : List Nat) : (inv p).length = p.length := tab_len _ _
theorem g_inv {p : List Nat} {i : Nat} (h : i < p.length) : g (inv p) i = ix p i := g_tab h
theorem isP_inv {p : List Nat} (hp : IsP p) : IsP (inv p) := isP_tab (fun i hi => ix_lt hp hi) (fun i j hi hj e => by rw [← g_ix hp hi, ← g_ix hp hj, e])
def thn (p q : List Nat) : List Nat := tab p.length (fun i => g q (g p i))
theorem thn_len (p q : List Nat) : (thn p q).length = p.length := tab_len _ _
theorem g_thn {p q : List Nat} {i : Nat} (h : i < p.length) : g (thn p q) i = g q (g p i) := g_tab h
theorem isP_thn {p q : List Nat} (hp : IsP p) (hq : IsP q) (hl : p.length = q.length) : IsP (thn p q) :=
  isP_tab (fun i hi => by have h1 := g_lt hp hi; have h2 := g_lt hq (i := g p i) (by omega); omega)
    (fun i j hi hj e => g_inj hp hi hj (g_inj hq (by have := g_lt hp hi; omega) (by have := g_lt hp hj; omega) e))
end Go.Proofs.Ytbdnellgioimbaa.M
end
section
/- Plain mathematics: permutations of whole numbers, and what is reached by two of them. No conditions. -/
namespace Go.Proofs.Ytbdnellgioimbaa.M
set_option linter.unusedVariables false
set_option linter.unusedSimpArgs false
open Go.RowKit Go.Proofs.YtbdnellgioimbaaW.PrintWords Go.Proofs.YtbdnellgioimbaaW.PrintLast Go.Proofs.YtbdnellgioimbaaW.PrintMore
theorem w64 {x : Int} (h0 : -9223372036854775808 ≤ x) (h1 : x ≤ 9223372036854775807) : wrap64 x = x := by unfold wrap64; omega
theorem w64s (i : Nat) (h : i ≤ 9000000000000000000) : wrap64 ((i : Int) + 1) = ((i + 1 : Nat) : Int) := by rw [w64 (by omega) (by omega)]; omega
theorem ev_succ {α : Type} {f : Nat → Option α} {r : α} (h : Ev (fun k => f (k + 1)) r) : Ev f r := Ev.step (fun _ => rfl) h
theorem rdI (p : List Nat) (i : Nat) : rd (I p) (i : Int) = ((g p i : Nat) : Int) := by
  unfold rd g I
  simp only [Int.toNat_natCast, List.getD_eq_getElem?_getD, List.getElem?_map]
  cases p[i]? <;> rfl
theorem rd_get (l : List Int) (i : Nat) (h : i < l.length) : rd l (i : Int) = l[i] := by
  unfold rd
  simp [List.getD_eq_getElem?_getD, h]
theorem mem_I {p : List Nat} {x : Nat} : (x : Int) ∈ I p ↔ x ∈ p := by
  unfold I
  constructor
  · intro h
    obtain ⟨y, hy, e⟩ := List.mem_map.mp h
    have : y = x := Int.ofNat.inj e
    exact this ▸ hy
  · intro h
    exact List.mem_map.mpr ⟨x, h, rfl⟩
def PI (l : List Int) : Prop := l.length ≤ 24 ∧ (∀ x ∈ l, 0 ≤ x ∧ x < (l.length : Int)) ∧ l.Nodup
instance : DecidablePred PI := fun l => by unfold PI; infer_instance
def permB (l : List Int) : Bool := decide (PI l)
def N (l : List Int) : List Nat := l.map Int.toNat
theorem N_I (p : List Nat) : N (I p) = p := by
  unfold N I
  rw [List.map_map]
  exact List.map_id'' (fun x => rfl) p
theorem N_len (l : List Int) : (N l).length = l.length := by simp [N]
theorem I_N {l : List Int} (h : ∀ x ∈ l, 0 ≤ x) : I (N l) = l := by
  unfold N I
  rw [List.map_map]
  conv => rhs; rw [← List.map_id l]
  apply List.map_congr_left
  intro x hx
  have := h x hx
  simp only [Function.comp, id]
  show ((x.toNat : Nat) : Int) = x
  omega
theorem PI_nat {l : List Int} (h : PI l) : ∃ p, l = I p ∧ IsP p ∧ p.length ≤ 24 := by
  obtain ⟨h1, h2, h3⟩ := h
  refine ⟨N l, (I_N (fun x hx => (h2 x hx).1)).symm, ?_, by rw [N_len]; exact h1⟩
  have e := I_N (fun x hx => (h2 x hx).1)
  refine ⟨fun x hx => ?_, ?_⟩
  · have := (h2 (x : Int) (by rw [← e]; exact mem_I.mpr hx)).2
    rw [N_len]
    omega
  · rw [← e] at h3
    unfold I at h3
    exact (List.pairwise_map.mp h3).imp (fun {a b} hab hh => hab (by rw [hh]))
theorem PI_I {p : List Nat} : PI (I p) ↔ IsP p ∧ p.length ≤ 24 := by
  constructor
  · intro h
    obtain ⟨q, e, h1, h2⟩ := PI_nat h
    have := I_inj e
    subst this
    exact ⟨h1, h2⟩
  · intro ⟨h1, h2⟩
    refine ⟨by rw [I_len]; exact h2, fun x hx => ?_, ?_⟩
    · unfold I at hx
      obtain ⟨y, hy, rfl⟩ := List.mem_map.mp hx
      have := h1.lt y hy
      rw [I_len]
      exact ⟨Int.natCast_nonneg y, Int.ofNat_lt.mpr this⟩
    · unfold I
      exact List.pairwise_map.mpr (h1.nd.imp (fun {a b} hab hh => hab (Int.ofNat.inj hh)))
theorem permB_I {p : List Nat} : permB (I p) = true ↔ IsP p ∧ p.length ≤ 24 := by
  unfold permB
  rw [decide_eq_true_iff]
  exact PI_I
def okFrom (l : List Int) (i : Nat) : Prop := ∀ j : Nat, i ≤ j → j < l.length → 0 ≤ rd l (j : Int) ∧ rd l (j : Int) < (l.length : Int) ∧ rd l (j : Int) ∉ l.take j
theorem okFrom_end (l : List Int) (i : Nat) (h : l.length ≤ i) : okFrom l i := fun j h1 h2 => by omega
theorem okFrom_step {l : List Int} {i : Nat} (h : 0 ≤ rd l (i : Int) ∧ rd l (i : Int) < (l.length : Int) ∧ rd l (i : Int) ∉ l.take i) : okFrom l i ↔ okFrom l (i + 1) := by
  constructor
  · intro k j h1 h2
    exact k j (by omega) h2
  · intro k j h1 h2
    by_cases e : j = i
    · subst e
      exact h
    · exact k j (by omega) h2
theorem okFrom_not {l : List Int} {i : Nat} (hi : i < l.length) (h : ¬ (0 ≤ rd l (i : Int) ∧ rd l (i : Int) < (l.length : Int) ∧ rd l (i : Int) ∉ l.take i)) : ¬ okFrom l i := fun k => h (k i (Nat.le_refl _) hi)
theorem okFrom_PI {l : List Int} (h : l.length ≤ 24) : okFrom l 0 ↔ PI l := by
  constructor
  · intro k
    refine ⟨h, fun x hx => ?_, ?_⟩
    · obtain ⟨i, hi, rfl⟩ := List.mem_iff_getElem.mp hx
      have := k i (Nat.zero_le _) hi
      rw [rd_get l i hi] at this
      exact ⟨this.1, this.2.1⟩
    · refine List.pairwise_iff_getElem.mpr ?_
      intro i j hi hj hij e
      have := (k j (Nat.zero_le _) hj).2.2
      rw [rd_get l j hj, ← e] at this
      exact this (List.mem_take_iff_getElem.mpr ⟨i, by omega, rfl⟩)
  · intro ⟨_, h2, h3⟩ j _ hj
    rw [rd_get l j hj]
    refine ⟨(h2 _ (List.getElem_mem hj)).1, (h2 _ (List.getElem_mem hj)).2, fun hm => ?_⟩
    obtain ⟨i, hi, e⟩ := List.mem_take_iff_getElem.mp hm
    exact List.pairwise_iff_getElem.mp h3 i j (by omega) hj (by omega) e
theorem permB_of {l : List Int} {b : Bool} (h : l.length ≤ 24) (hb : b = true ↔ okFrom l 0) : b = permB l := by
  rw [Bool.eq_iff_iff, hb, okFrom_PI h]
  unfold permB
  rw [decide_eq_true_iff]
theorem take_succ (l : List Int) (i : Nat) (h : i < l.length) : l.take (i + 1) = l.take i ++ [rd l (i : Int)] := by
  rw [rd_get l i h, List.take_append_getElem h]
def st1 (out : List Nat) (x : Nat) : List Nat := if x ∈ out then out else out ++ [x]
def bfs (p q : List Nat) : Nat → Nat → List Nat → List Nat
  | 0, _, out => out
  | f + 1, a, out => if a < out.length then bfs p q f (a + 1) (st1 (st1 out (g p (g out a))) (g q (g out a))) else out
def reach (p q : List Nat) (s : Nat) : List Nat := bfs p q (p.length + 1) 0 [s]
structure RInv (n : Nat) (out : List Nat) : Prop where
  nd : out.Nodup
  lt : ∀ x ∈ out, x < n
theorem RInv.le {n : Nat} {out : List Nat} (h : RInv n out) : out.length ≤ n := nodup_le n out h.nd h.lt
theorem RInv.st {n : Nat} {out : List Nat} {x : Nat} (h : RInv n out) (hx : x < n) : RInv n (st1 out x) := by
  unfold st1
  split
  · exact h
  · rename_i hn
    refine ⟨List.nodup_append.mpr ⟨h.nd, by simp, fun a ha b hb e => ?_⟩, fun y hy => ?_⟩
    · have : b = x := by simpa using hb
      subst this
      exact hn (e ▸ ha)
    · rcases List.mem_append.mp hy with hy | hy
      · exact h.lt y hy
      · have : y = x := by simpa using hy
        omega
theorem st1_len (out : List Nat) (x : Nat) : out.length ≤ (st1 out x).length := by
  unfold st1
  split <;> simp
theorem RInv.g {n : Nat} {out : List Nat} {a : Nat} (h : RInv n out) (ha : a < out.length) : M.g out a < n := h.lt _ (g_mem ha)
structure Sf (r u : List Nat) : Prop where
  pr : IsP r
  pu : IsP u
  le : r.length ≤ 24
  eq : u.length = r.length
  pos : 0 < r.length
  all : (reach r u 0).length = r.length
def surfB (r u : List Int) : Bool := permB r && permB u && decide (r.length = u.length) && decide (0 < r.length) && ((reach (N r) (N u) 0).length == r.length)
theorem surf_nat {r u : List Int} (h : surfB r u = true) : ∃ r' u', r = I r' ∧ u = I u' ∧ Sf r' u' := by
  unfold surfB at h
  simp only [Bool.and_eq_true, decide_eq_true_eq, beq_iff_eq] at h
  obtain ⟨⟨⟨⟨h1, h2⟩, h3⟩, h4⟩, h5⟩ := h
  obtain ⟨r', rfl, a1, a2⟩ := PI_nat (of_decide_eq_true h1)
  obtain ⟨u', rfl, b1, b2⟩ := PI_nat (of_decide_eq_true h2)
  rw [N_I, N_I, I_len] at h5
  rw [I_len, I_len] at h3
  rw [I_len] at h4
  exact ⟨r', u', rfl, rfl, a1, b1, a2, h3.symm, h4, h5⟩
theorem surfB_I {r u : List Nat} : surfB (I r) (I u) = true ↔ Sf r u := by
  constructor
  · intro h
    obtain ⟨r', u', e1, e2, hs⟩ := surf_nat h
    have := I_inj e1
    have := I_inj e2
    subst_vars
    exact hs
  · intro h
    unfold surfB
    simp only [Bool.and_eq_true, decide_eq_true_eq, beq_iff_eq]
    rw [N_I, N_I, I_len, I_len]
    exact ⟨⟨⟨⟨permB_I.mpr ⟨h.pr, h.le⟩, permB_I.mpr ⟨h.pu, by have := h.le; have := h.eq; omega⟩⟩, h.eq.symm⟩, h.pos⟩, h.all⟩
end Go.Proofs.Ytbdnellgioimbaa.M
end
section
/- Plain mathematics: going round a permutation. No conditions. -/
namespace Go.Proofs.Ytbdnellgioimbaa.M
set_option linter.unusedVariables false
set_option linter.unusedSimpArgs false
def itr (p : List Nat) : Nat → Nat → Nat
  | 0, s => s
  | m + 1, s => g p (itr p m s)
theorem itr_lt {p : List Nat} (hp : IsP p) (m : Nat) {s : Nat} (hs : s < p.length) : itr p m s < p.length := by
  induction m with
  | zero => exact hs
  | succ m ih => exact g_lt hp ih
theorem itr_add (p : List Nat) (a b s : Nat) : itr p (a + b) s = itr p a (itr p b s) := by
  induction a with
  | zero => simp [itr]
  | succ a ih =>
    have e : a + 1 + b = (a + b) + 1 := by omega
    rw [e, itr, itr, ih]
theorem itr_back {p : List Nat} (hp : IsP p) {s : Nat} (hs : s < p.length) (i d : Nat) (h : itr p (i + d) s = itr p i s) : itr p d s = s := by
  induction i with
  | zero =>
    have e : 0 + d = d := by omega
    rw [e] at h
    exact h
  | succ i ih =>
    have e : i + 1 + d = (i + d) + 1 := by omega
    rw [e] at h
    exact ih (g_inj hp (itr_lt hp _ hs) (itr_lt hp _ hs) h)
theorem period {p : List Nat} (hp : IsP p) {s : Nat} (hs : s < p.length) : ∃ m, 1 ≤ m ∧ m ≤ p.length ∧ itr p m s = s := by
  apply Classical.byContradiction
  intro hn
  have hd : ((List.range (p.length + 1)).map (fun m => itr p m s)).Nodup := by
    refine List.pairwise_map.mpr ?_
    refine List.pairwise_iff_getElem.mpr ?_
    intro i j hi hj hij
    rw [List.length_range] at hi hj
    rw [List.getElem_range, List.getElem_range]
    intro e
    have : itr p (j - i) s = s := itr_back hp hs i (j - i) (by
      have e2 : i + (j - i) = j := by omega
      rw [e2]
      exact e.symm)
    exact hn ⟨j - i, by omega, by omega, this⟩
  have := nodup_le p.length _ hd (fun x hx => by
    obtain ⟨m, _, rfl⟩ := List.mem_map.mp hx
    exact itr_lt hp m hs)
  simp at this
  omega
def per (p : List Nat) (s : Nat) : Nat := (((List.range p.length).find? (fun m => itr p (m + 1) s == s)).getD 0) + 1
theorem per_spec {p : List Nat} (hp : IsP p) {s : Nat} (hs : s < p.length) : itr p (per p s) s = s ∧ per p s ≤ p.length ∧ ∀ m, 1 ≤ m → m < per p s → itr p m s ≠ s := by
  obtain ⟨m, m1, m2, m3⟩ := period hp hs
  unfold per
  cases h : (List.range p.length).find? (fun m => itr p (m + 1) s == s) with
  | none =>
    have := List.find?_eq_none.mp h (m - 1) (List.mem_range.mpr (by omega))
    have e : m - 1 + 1 = m := by omega
    rw [e, m3] at this
    simp at this
  | some a =>
    simp only [Option.getD_some]
    have h1 := List.find?_some h
    have h2 := List.mem_of_find?_eq_some h
    rw [List.mem_range] at h2
    refine ⟨by simpa using h1, by omega, fun m hm1 hm2 e => ?_⟩
    obtain ⟨_, as1, bs1, hb, hn⟩ := List.find?_eq_some_iff_append.mp h
    have hm : m - 1 ∈ as1 := by
      have hl : as1.length = a := by
        have e1 : (List.range p.length)[as1.length]? = some a := by rw [hb]; simp
        have := List.getElem?_eq_some_iff.mp e1
        obtain ⟨_, e2⟩ := this
        rw [List.getElem_range] at e2
        exact e2
      have e1 : (List.range p.length)[m - 1]? = some (m - 1) := by
        rw [List.getElem?_range]
        omega
      rw [hb, List.getElem?_append_left (by omega)] at e1
      exact List.mem_of_getElem? e1
    have := hn _ hm
    have e3 : m - 1 + 1 = m := by omega
    rw [e3, e] at this
    simp at this
theorem per_pos (p : List Nat) (s : Nat) : 1 ≤ per p s := by unfold per; omega
def orbTo (p : List Nat) (s m : Nat) : List Nat := (List.range m).map (fun k => itr p k s)
def orb (p : List Nat) (s : Nat) : List Nat := orbTo p s (per p s)
theorem mem_orbTo {p : List Nat} {s m x : Nat} : x ∈ orbTo p s m ↔ ∃ k, k < m ∧ itr p k s = x := by
  unfold orbTo
  simp
theorem orbTo_snoc (p : List Nat) (s m : Nat) : orbTo p s m ++ [itr p m s] = orbTo p s (m + 1) := by
  unfold orbTo
  rw [List.range_succ]
  simp
theorem orb_close {p : List Nat} (hp : IsP p) {s m : Nat} (hs : s < p.length) (hm : m < per p s) (h1 : 1 ≤ m) : itr p m s ∉ orbTo p s m := by
  intro h
  obtain ⟨k, hk, e⟩ := mem_orbTo.mp h
  have : itr p (m - k) s = s := itr_back hp hs k (m - k) (by
    have e2 : k + (m - k) = m := by omega
    rw [e2]
    exact e.symm)
  exact (per_spec hp hs).2.2 (m - k) (by omega) (by omega) this
theorem mem_orb {p : List Nat} (hp : IsP p) {s : Nat} (hs : s < p.length) {x : Nat} : x ∈ orb p s ↔ ∃ k, itr p k s = x := by
  constructor
  · intro h
    obtain ⟨k, _, e⟩ := mem_orbTo.mp h
    exact ⟨k, e⟩
  · intro ⟨k, e⟩
    have hper := per_spec hp hs
    have hpos := per_pos p s
    have hmod : ∀ k, itr p (k % per p s) s = itr p k s := by
      intro k
      have e1 : k % per p s + per p s * (k / per p s) = k := Nat.mod_add_div k (per p s)
      have hz : ∀ j, itr p (per p s * j) s = s := by
        intro j
        induction j with
        | zero => rfl
        | succ j ih =>
          have : per p s * (j + 1) = per p s * j + per p s := by rw [Nat.mul_add, Nat.mul_one]
          rw [this, itr_add, hper.1, ih]
      conv => rhs; rw [← e1]
      rw [itr_add, hz]
    exact mem_orbTo.mpr ⟨k % per p s, Nat.mod_lt _ (by omega), by rw [hmod, e]⟩
theorem orb_self {p : List Nat} (hp : IsP p) {s : Nat} (hs : s < p.length) : s ∈ orb p s := (mem_orb hp hs).mpr ⟨0, rfl⟩
theorem orb_lt {p : List Nat} (hp : IsP p) {s : Nat} (hs : s < p.length) {x : Nat} (h : x ∈ orb p s) : x < p.length := by
  obtain ⟨k, rfl⟩ := (mem_orb hp hs).mp h
  exact itr_lt hp k hs
theorem orb_sym {p : List Nat} (hp : IsP p) {s : Nat} (hs : s < p.length) {x : Nat} (h : x ∈ orb p s) : s ∈ orb p x := by
  obtain ⟨k, hk, e⟩ := mem_orbTo.mp h
  have hx := orb_lt hp hs h
  refine (mem_orb hp hx).mpr ⟨per p s - k, ?_⟩
  rw [← e, ← itr_add]
  have : per p s - k + k = per p s := by omega
  rw [this]
  exact (per_spec hp hs).1
theorem orb_trans {p : List Nat} (hp : IsP p) {s : Nat} (hs : s < p.length) {x y : Nat} (h : x ∈ orb p s) (k : y ∈ orb p x) : y ∈ orb p s := by
  have hx := orb_lt hp hs h
  obtain ⟨a, rfl⟩ := (mem_orb hp hs).mp h
  obtain ⟨b, rfl⟩ := (mem_orb hp hx).mp k
  exact (mem_orb hp hs).mpr ⟨b + a, itr_add p b a s⟩
def cyc (p : List Nat) : Nat → List (List Nat)
  | 0 => []
  | i + 1 => if ∃ c ∈ cyc p i, i ∈ c then cyc p i else cyc p i ++ [orb p i]
def cycles (p : List Nat) : List (List Nat) := cyc p p.length
theorem cyc_form (p : List Nat) (i : Nat) : ∀ c ∈ cyc p i, ∃ s, s < i ∧ c = orb p s := by
  induction i with
  | zero => intro c h; simp [cyc] at h
  | succ i ih =>
    intro c h
    unfold cyc at h
    split at h
    · obtain ⟨s, h1, h2⟩ := ih c h
      exact ⟨s, by omega, h2⟩
    · rcases List.mem_append.mp h with h | h
      · obtain ⟨s, h1, h2⟩ := ih c h
        exact ⟨s, by omega, h2⟩
      · exact ⟨i, by omega, by simpa using h⟩
theorem cyc_all {p : List Nat} (hp : IsP p) (i : Nat) (hi : i ≤ p.length) : ∀ x, x < i → ∃ c ∈ cyc p i, x ∈ c := by
  induction i with
  | zero => intro x h; omega
  | succ i ih =>
    intro x h
    unfold cyc
    by_cases e : x = i
    · subst e
      split
      · assumption
      · exact ⟨orb p x, by simp, orb_self hp (by omega)⟩
    · obtain ⟨c, h1, h2⟩ := ih (by omega) x (by omega)
      split
      · exact ⟨c, h1, h2⟩
      · exact ⟨c, List.mem_append.mpr (.inl h1), h2⟩
theorem orb_meet {p : List Nat} (hp : IsP p) {s t x : Nat} (hs : s < p.length) (ht : t < p.length) (h1 : x ∈ orb p s) (h2 : x ∈ orb p t) : t ∈ orb p s :=
  orb_trans hp hs h1 (orb_sym hp ht h2)
theorem cyc_new {p : List Nat} (hp : IsP p) {i : Nat} (hi : i < p.length) (h : ¬ ∃ c ∈ cyc p i, i ∈ c) {x : Nat} (hx : x ∈ orb p i) : ¬ ∃ c ∈ cyc p i, x ∈ c := by
  intro ⟨c, hc, hm⟩
  obtain ⟨s, hs, rfl⟩ := cyc_form p i c hc
  exact h ⟨_, hc, orb_meet hp (by omega) hi hm hx⟩
end Go.Proofs.Ytbdnellgioimbaa.M
end
section
/- Plain mathematics: surfaces, and what the four letters make of them. No conditions. -/
namespace Go.Proofs.Ytbdnellgioimbaa.M
set_option linter.unusedVariables false
set_option linter.unusedSimpArgs false
theorem st1_mem {out : List Nat} {x y : Nat} : y ∈ st1 out x ↔ y ∈ out ∨ y = x := by
  unfold st1
  split
  · rename_i h
    constructor
    · exact Or.inl
    · rintro (h' | rfl)
      · exact h'
      · exact h
  · simp
theorem st1_g {out : List Nat} {x i : Nat} (h : i < out.length) : g (st1 out x) i = g out i := by
  unfold st1
  split
  · rfl
  · unfold g
    rw [List.getD_eq_getElem?_getD, List.getD_eq_getElem?_getD, List.getElem?_append_left h]
theorem st1_le (out : List Nat) (x : Nat) : out.length ≤ (st1 out x).length := by
  unfold st1
  split
  · exact Nat.le_refl _
  · simp
theorem bfs_ind {r u : List Nat} {n : Nat} (S : Nat → Prop) (h1 : ∀ x, x < n → S x → S (g r x) ∧ g r x < n) (h2 : ∀ x, x < n → S x → S (g u x) ∧ g u x < n) : ∀ (F a : Nat) (out : List Nat), (∀ x ∈ out, S x ∧ x < n) → ∀ x ∈ bfs r u F a out, S x ∧ x < n := by
  intro F
  induction F with
  | zero => intro a out h; exact h
  | succ F ih =>
    intro a out h
    unfold bfs
    split
    · rename_i ha
      obtain ⟨s, l⟩ := h _ (g_mem ha)
      refine ih _ _ (fun x hx => ?_)
      rcases st1_mem.mp hx with hx | rfl
      · rcases st1_mem.mp hx with hx | rfl
        · exact h x hx
        · exact h1 _ l s
      · exact h2 _ l s
    · exact h
theorem bfs_sub {r u : List Nat} : ∀ (F a : Nat) (out : List Nat), ∀ x ∈ out, x ∈ bfs r u F a out := by
  intro F
  induction F with
  | zero => intro a out x h; exact h
  | succ F ih =>
    intro a out x h
    unfold bfs
    split
    · exact ih _ _ x (st1_mem.mpr (.inl (st1_mem.mpr (.inl h))))
    · exact h
theorem bfs_rinv {r u : List Nat} {n : Nat} (h1 : ∀ x, x < n → g r x < n) (h2 : ∀ x, x < n → g u x < n) : ∀ (F a : Nat) (out : List Nat), RInv n out → RInv n (bfs r u F a out) := by
  intro F
  induction F with
  | zero => intro a out h; exact h
  | succ F ih =>
    intro a out h
    unfold bfs
    split
    · rename_i ha
      have hx := h.g ha
      exact ih _ _ ((h.st (h1 _ hx)).st (h2 _ hx))
    · exact h
theorem bfs_shut {r u : List Nat} {n : Nat} (h1 : ∀ x, x < n → g r x < n) (h2 : ∀ x, x < n → g u x < n) : ∀ (F a : Nat) (out : List Nat), RInv n out → a ≤ out.length → n < F + a → (∀ i, i < a → g r (g out i) ∈ out ∧ g u (g out i) ∈ out) → ∀ x ∈ bfs r u F a out, g r x ∈ bfs r u F a out ∧ g u x ∈ bfs r u F a out := by
  intro F
  induction F with
  | zero =>
    intro a out h ha hF
    have := h.le
    omega
  | succ F ih =>
    intro a out h ha hF hc
    unfold bfs
    split
    · rename_i ha'
      have hx := h.g ha'
      have r1 := h.st (h1 _ hx)
      have l1 := st1_le out (g r (g out a))
      have l2 := st1_le (st1 out (g r (g out a))) (g u (g out a))
      refine ih _ _ (r1.st (h2 _ hx)) (by omega) (by omega) (fun i hi => ?_)
      have e : g (st1 (st1 out (g r (g out a))) (g u (g out a))) i = g out i := by
        rw [st1_g (by omega), st1_g (by omega)]
      rw [e]
      by_cases hia : i < a
      · exact ⟨st1_mem.mpr (.inl (st1_mem.mpr (.inl (hc i hia).1))), st1_mem.mpr (.inl (st1_mem.mpr (.inl (hc i hia).2)))⟩
      · obtain rfl : i = a := by omega
        exact ⟨st1_mem.mpr (.inl (st1_mem.mpr (.inr rfl))), st1_mem.mpr (.inr rfl)⟩
    · intro x hx
      obtain ⟨i, hi, rfl⟩ := mem_g hx
      exact hc i (by omega)
theorem nodup_sub_len5 : ∀ (a b : List Nat), a.Nodup → (∀ x ∈ a, x ∈ b) → a.length ≤ b.length := by
  intro a
  induction a with
  | nil => intro b _ _; simp
  | cons x a ih =>
    intro b hn h
    obtain ⟨h1, h2⟩ := List.nodup_cons.mp hn
    have hx : x ∈ b := h x (by simp)
    have := ih (b.erase x) h2 (fun y hy => (List.mem_erase_of_ne (fun e => h1 (by rw [← e]; exact hy))).mpr (h y (by simp [hy])))
    rw [List.length_erase_of_mem hx] at this
    have hp := List.length_pos_of_mem hx
    simp
    omega
def Tr (r u : List Nat) : Prop := ∀ S : Nat → Prop, S 0 → (∀ x, x < r.length → S x → S (g r x)) → (∀ x, x < r.length → S x → S (g u x)) → ∀ x, x < r.length → S x
theorem sf_of_tr {r u : List Nat} (pr : IsP r) (pu : IsP u) (le : r.length ≤ 24) (eq : u.length = r.length) (pos : 0 < r.length) (h : Tr r u) : Sf r u := by
  have b1 : ∀ x, x < r.length → g r x < r.length := fun x hx => g_lt pr hx
  have b2 : ∀ x, x < r.length → g u x < r.length := fun x hx => by have := g_lt pu (i := x) (by omega); omega
  have hri : RInv r.length (reach r u 0) := bfs_rinv b1 b2 _ _ _ ⟨by simp, by simpa using pos⟩
  have hsh := bfs_shut b1 b2 (r.length + 1) 0 [0] ⟨by simp, by simpa using pos⟩ (by simp) (by omega) (fun i hi => by omega)
  have hall : ∀ x, x < r.length → x ∈ reach r u 0 := h (fun x => x ∈ reach r u 0) (bfs_sub _ _ _ 0 (by simp)) (fun x _ hx => (hsh x hx).1) (fun x _ hx => (hsh x hx).2)
  refine ⟨pr, pu, le, eq, pos, ?_⟩
  have l1 := hri.le
  have l2 := nodup_sub_len5 (List.range r.length) (reach r u 0) List.nodup_range (fun x hx => hall x (List.mem_range.mp hx))
  rw [List.length_range] at l2
  omega
theorem Sf.tr {r u : List Nat} (hs : Sf r u) : Tr r u := by
  intro S s0 h1 h2 x hx
  have b1 : ∀ x, x < r.length → g r x < r.length := fun x hx => g_lt hs.pr hx
  have b2 : ∀ x, x < r.length → g u x < r.length := fun x hx => by have := g_lt hs.pu (i := x) (by rw [hs.eq]; exact hx); rw [hs.eq] at this; exact this
  have hri : RInv r.length (reach r u 0) := bfs_rinv b1 b2 _ _ _ ⟨by simp, by simpa using hs.pos⟩
  have hp : IsP (reach r u 0) := ⟨fun x hx => by rw [hs.all]; exact hri.lt x hx, hri.nd⟩
  have hm := mem_all hp (x := x) (by rw [hs.all]; exact hx)
  have h0 : ∀ y ∈ [0], S y ∧ y < r.length := by
    intro y hy
    obtain rfl : y = 0 := by simpa using hy
    exact ⟨s0, hs.pos⟩
  exact (bfs_ind S (fun x hx h => ⟨h1 x hx h, b1 x hx⟩) (fun x hx h => ⟨h2 x hx h, b2 x hx⟩) _ _ [0] h0 x hm).1
theorem closed_back {p : List Nat} (hp : IsP p) {S : Nat → Prop} (hS : ∀ x, x < p.length → S x → S (g p x)) {x : Nat} (hx : x < p.length) (h : S (g p x)) : S x := by
  obtain ⟨m, h1, _, h3⟩ := period hp hx
  have H : ∀ k, S (itr p k (g p x)) := by
    intro k
    induction k with
    | zero => exact h
    | succ k ih => exact hS _ (itr_lt hp k (g_lt hp hx)) ih
  have e : itr p (m - 1) (g p x) = itr p m x := by
    have := itr_add p (m - 1) 1 x
    rw [show m - 1 + 1 = m by omega] at this
    exact this.symm
  have := H (m - 1)
  rw [e, h3] at this
  exact this
theorem sf_T {r u : List Nat} (hs : Sf r u) : Sf r (thn (inv r) u) := by
  have h1 : (inv r).length = u.length := by rw [inv_len, hs.eq]
  refine sf_of_tr hs.pr (isP_thn (isP_inv hs.pr) hs.pu h1) hs.le (by rw [thn_len, inv_len]) hs.pos (fun S s0 k1 k2 => hs.tr S s0 k1 (fun x hx hsx => ?_))
  have := k2 (g r x) (g_lt hs.pr hx) (k1 x hx hsx)
  rw [g_thn (by rw [inv_len]; exact g_lt hs.pr hx), g_inv (g_lt hs.pr hx), ix_g hs.pr hx] at this
  exact this
theorem sf_t {r u : List Nat} (hs : Sf r u) : Sf r (thn r u) := by
  have h1 : r.length = u.length := hs.eq.symm
  refine sf_of_tr hs.pr (isP_thn hs.pr hs.pu h1) hs.le (by rw [thn_len]) hs.pos (fun S s0 k1 k2 => hs.tr S s0 k1 (fun y hy hsy => ?_))
  have hx : ix r y < r.length := ix_lt hs.pr hy
  have e : g r (ix r y) = y := g_ix hs.pr hy
  have hsx : S (ix r y) := closed_back hs.pr (S := S) k1 hx (by rw [e]; exact hsy)
  have := k2 _ hx hsx
  rw [g_thn hx, e] at this
  exact this
theorem sf_S {r u : List Nat} (hs : Sf r u) : Sf (inv u) r := by
  have hl : (inv u).length = r.length := by rw [inv_len, hs.eq]
  refine sf_of_tr (isP_inv hs.pu) hs.pr (by rw [hl]; exact hs.le) hl.symm (by rw [hl]; exact hs.pos) (fun S s0 k1 k2 => ?_)
  rw [hl] at k1 k2 ⊢
  refine hs.tr S s0 k2 (fun x hx hsx => ?_)
  have hx' : g u x < u.length := g_lt hs.pu (by rw [hs.eq]; exact hx)
  refine closed_back (isP_inv hs.pu) (S := S) (fun y hy => k1 y (by rw [← hl]; exact hy)) (x := g u x) (by rw [inv_len]; exact hx') ?_
  rw [g_inv hx', ix_g hs.pu (by rw [hs.eq]; exact hx)]
  exact hsx
theorem sf_s {r u : List Nat} (hs : Sf r u) : Sf u (inv r) := by
  refine sf_of_tr hs.pu (isP_inv hs.pr) (by rw [hs.eq]; exact hs.le) (by rw [inv_len, hs.eq]) (by rw [hs.eq]; exact hs.pos) (fun S s0 k1 k2 => ?_)
  rw [hs.eq] at k1 k2 ⊢
  refine hs.tr S s0 (fun x hx hsx => ?_) k1
  have hx' : g r x < r.length := g_lt hs.pr hx
  refine closed_back (isP_inv hs.pr) (S := S) (fun y hy => k2 y (by rw [inv_len] at hy; exact hy)) (x := g r x) (by rw [inv_len]; exact hx') ?_
  rw [g_inv hx', ix_g hs.pr hx]
  exact hsx
end Go.Proofs.Ytbdnellgioimbaa.M
end
section
/- The tests of permutations, program and reference, come to one plain test. No conditions. -/
namespace Go.Proofs.Ytbdnellgioimbaa.M
set_option linter.unusedVariables false
set_option linter.unusedSimpArgs false
open Go.RowKit Go.Proofs.YtbdnellgioimbaaW.PrintWords Go.Proofs.YtbdnellgioimbaaW.PrintLast Go.Proofs.YtbdnellgioimbaaW.PrintMore Go.Proofs.Ytbdnellgioimbaa.A
theorem has_ev (l : List Int) (a : Int) (hl : l.length ≤ 1000000000) : Ev (fun k => spec_l02Has.f k l a) (decide (a ∈ l)) := by
  have H : ∀ d i : Nat, i + d = l.length → Ev (fun k => spec_l02Has.l0 k a l (l.length : Int) (i : Int)) (decide (a ∈ l.drop i)) := by
    intro d
    induction d with
    | zero =>
      intro i h
      refine ev_succ ?_
      have h1 : ¬ ((i : Int) < (l.length : Int)) := by omega
      have e : decide (a ∈ l.drop i) = false := by
        rw [List.drop_of_length_le (by omega)]
        simp
      simp only [spec_l02Has.l0, h1, if_false]
      rw [e]
      exact Ev.now _
    | succ d ih =>
      intro i h
      refine ev_succ ?_
      have hi : i < l.length := by omega
      have h1 : (i : Int) < (l.length : Int) := by omega
      have h2 : (0 : Int) ≤ (i : Int) := by omega
      have h3 := w64s i (by omega)
      have e := List.drop_eq_getElem_cons hi
      rw [← rd_get l i hi] at e
      by_cases hr : rd l (i : Int) = a
      · have e2 : decide (a ∈ l.drop i) = true := by rw [e, hr]; simp
        simp only [spec_l02Has.l0, h1, h2, hr, if_true]
        rw [e2]
        exact Ev.now _
      · have e2 : decide (a ∈ l.drop i) = decide (a ∈ l.drop (i + 1)) := by
          rw [e]
          have : ¬ a = rd l (i : Int) := fun h => hr h.symm
          simp [this]
        simp only [spec_l02Has.l0, h1, h2, h3, hr, if_true, if_false]
        rw [e2]
        exact ih (i + 1) (by omega)
  have := H l.length 0 (by omega)
  simpa [spec_l02Has.f] using this
theorem in_f (x : Int) (n : Nat) (hn : n ≤ 24) : spec_l01In.f x 0 (wrap64 ((n : Int) - 1)) = some (decide (0 ≤ x ∧ x < (n : Int))) := by
  unfold spec_l01In.f
  rw [w64 (by omega) (by omega)]
  by_cases h : x ≥ 0
  · rw [if_pos h]
    congr 1
    rw [Bool.eq_iff_iff, decide_eq_true_iff, decide_eq_true_iff]
    omega
  · rw [if_neg h]
    congr 1
    symm
    rw [decide_eq_false_iff_not]
    omega
theorem spec_permOk (l : List Int) : Ev (fun k => spec_PermOk.f k l) (permB l) := by
  unfold spec_PermOk.f
  by_cases h24 : (l.length : Int) > 24
  · simp only [h24, if_true]
    have : permB l = false := by
      unfold permB
      rw [decide_eq_false_iff_not]
      intro h
      have := h.1
      omega
    rw [this]
    exact Ev.now _
  · simp only [h24, if_false]
    have H : ∀ d i : Nat, i + d = l.length → ∃ b, Ev (fun k => spec_PermOk.l0 k l l (l.length : Int) (i : Int)) b ∧ (b = true ↔ okFrom l i) := by
      intro d
      induction d with
      | zero =>
        intro i h
        refine ⟨true, ev_succ ?_, by simp [okFrom_end l i (by omega)]⟩
        have h1 : ¬ ((i : Int) < (l.length : Int)) := by omega
        simp only [spec_PermOk.l0, h1, if_false]
        exact Ev.now _
      | succ d ih =>
        intro i h
        have hi : i < l.length := by omega
        have h1 : (i : Int) < (l.length : Int) := by omega
        have h1' : (i : Int) ≤ (l.length : Int) := by omega
        have h2 : (0 : Int) ≤ (i : Int) := by omega
        have h3 := w64s i (by omega)
        have hin := in_f (rd l (i : Int)) l.length (by omega)
        by_cases c1 : 0 ≤ rd l (i : Int) ∧ rd l (i : Int) < (l.length : Int)
        · have hh := has_ev (l.take i) (rd l (i : Int)) (by rw [List.length_take]; omega)
          by_cases c2 : rd l (i : Int) ∈ l.take i
          · refine ⟨false, ev_succ ?_, by simpa using okFrom_not hi (fun h => h.2.2 c2)⟩
            simp only [spec_PermOk.l0, h1, h1', h2, hin, c1, if_true, Option.bind_some, decide_true, Int.toNat_natCast, and_self]
            refine Ev.bind hh ?_
            simp only [c2, decide_true, if_true]
            exact Ev.now _
          · obtain ⟨b, i1, i2⟩ := ih (i + 1) (by omega)
            refine ⟨b, ev_succ ?_, by rw [i2]; exact (okFrom_step ⟨c1.1, c1.2, c2⟩).symm⟩
            simp only [spec_PermOk.l0, h1, h1', h2, h3, hin, c1, if_true, Option.bind_some, decide_true, Int.toNat_natCast, and_self]
            refine Ev.bind hh ?_
            simp only [c2, decide_false, Bool.false_eq_true, if_false]
            exact i1
        · refine ⟨false, ev_succ ?_, by simpa using okFrom_not hi (fun h => c1 ⟨h.1, h.2.1⟩)⟩
          simp only [spec_PermOk.l0, h1, h2, hin, c1, if_true, if_false, Option.bind_some, decide_false, Bool.false_eq_true]
          exact Ev.now _
    obtain ⟨b, i1, i2⟩ := H l.length 0 (by omega)
    rw [← permB_of (by omega) i2]
    exact i1
theorem rdOf_nat (s : List Bool) (x : Nat) : rdOf false s (x : Int) = s.getD x false := rfl
theorem getD_set (s : List Bool) (x y : Nat) (h : x < s.length) : (s.set x true).getD y false = if x = y then true else s.getD y false := by
  rw [List.getD_eq_getElem?_getD, List.getD_eq_getElem?_getD, List.getElem?_set]
  by_cases e : x = y
  · subst e
    simp [h]
  · simp [e]
theorem impl_permOk (l : List Int) : Ev (fun k => impl_PermOk.f k l) (permB l) := by
  unfold impl_PermOk.f
  by_cases h24 : (l.length : Int) > 24
  · simp only [h24, if_true]
    have : permB l = false := by
      unfold permB
      rw [decide_eq_false_iff_not]
      intro h
      have := h.1
      omega
    rw [this]
    exact Ev.now _
  · simp only [h24, if_false]
    have H : ∀ (d i : Nat) (s : List Bool), i + d = l.length → s.length = 24 → (∀ x : Nat, x < 24 → (s.getD x false = true ↔ (x : Int) ∈ l.take i)) → ∃ b, Ev (fun k => impl_PermOk.l0 k l s (i : Int)) b ∧ (b = true ↔ okFrom l i) := by
      intro d
      induction d with
      | zero =>
        intro i s h hs hx
        refine ⟨true, ev_succ ?_, by simp [okFrom_end l i (by omega)]⟩
        have h1 : ¬ ((i : Int) < (l.length : Int)) := by omega
        simp only [impl_PermOk.l0, h1, if_false]
        exact Ev.now _
      | succ d ih =>
        intro i s h hs hx
        have hi : i < l.length := by omega
        have h1 : (i : Int) < (l.length : Int) := by omega
        have h2 : (0 : Int) ≤ (i : Int) := by omega
        have h3 := w64s i (by omega)
        by_cases c1 : rd l (i : Int) < 0
        · refine ⟨false, ev_succ ?_, by simpa using okFrom_not hi (fun h => by omega)⟩
          simp only [impl_PermOk.l0, h1, h2, c1, if_true]
          exact Ev.now _
        · by_cases c2 : rd l (i : Int) ≥ (l.length : Int)
          · refine ⟨false, ev_succ ?_, by simpa using okFrom_not hi (fun h => by omega)⟩
            simp only [impl_PermOk.l0, h1, h2, c1, c2, if_true, if_false]
            exact Ev.now _
          · obtain ⟨x, ex⟩ : ∃ x : Nat, rd l (i : Int) = (x : Int) := ⟨(rd l (i : Int)).toNat, by omega⟩
            have hx24 : x < 24 := by omega
            by_cases c3 : s.getD x false = true
            · have hm := (hx x hx24).mp c3
              refine ⟨false, ev_succ ?_, by simpa using okFrom_not hi (fun h => h.2.2 (by rw [ex]; exact hm))⟩
              rw [ex] at c1 c2
              simp only [impl_PermOk.l0, h1, h2, ex, c1, c2, rdOf_nat, c3, if_true, if_false]
              exact Ev.now _
            · have hm : (x : Int) ∉ l.take i := fun h => c3 ((hx x hx24).mpr h)
              obtain ⟨b, i1, i2⟩ := ih (i + 1) (s.set x true) (by omega) (by rw [List.length_set]; exact hs) (fun y hy => by
                rw [getD_set s x y (by omega), take_succ l i hi, ex]
                by_cases e : x = y
                · subst e
                  simp
                · rw [if_neg e, hx y hy]
                  have : ¬ (y : Int) = (x : Int) := by omega
                  simp [this])
              refine ⟨b, ev_succ ?_, by rw [i2]; exact (okFrom_step ⟨by omega, by omega, by rw [ex]; exact hm⟩).symm⟩
              rw [ex] at c1 c2
              simp only [impl_PermOk.l0, h1, h2, h3, ex, c1, c2, rdOf_nat, c3, if_true, if_false, Int.toNat_natCast]
              exact i1
    obtain ⟨b, i1, i2⟩ := H l.length 0 (List.replicate 24 false) (by omega) rfl (fun x hx => by
      have : (List.replicate 24 false).getD x false = false := by
        rw [List.getD_eq_getElem?_getD, List.getElem?_replicate]
        simp [hx]
      rw [this]
      simp)
    rw [← permB_of (by omega) i2]
    exact i1
end Go.Proofs.Ytbdnellgioimbaa.M
end
section
/- The tests of surfaces, program and reference, come to one plain test. No conditions. -/
namespace Go.Proofs.Ytbdnellgioimbaa.M
set_option linter.unusedVariables false
set_option linter.unusedSimpArgs false
open Go.RowKit Go.Proofs.YtbdnellgioimbaaW.PrintWords Go.Proofs.YtbdnellgioimbaaW.PrintLast Go.Proofs.YtbdnellgioimbaaW.PrintMore Go.Proofs.Ytbdnellgioimbaa.A
theorem I_pair (a b : Nat) : ([(a : Int), (b : Int)] : List Int) = I [a, b] := rfl
theorem I_len' (l : List Nat) : ((I l).length : Int) = (l.length : Int) := by rw [I_len]
theorem st1_I (out : List Nat) (x : Nat) : I (st1 out x) = if (x : Int) ∈ I out then I out else I out ++ [(x : Int)] := by
  unfold st1
  by_cases h : x ∈ out
  · rw [if_pos h, if_pos (mem_I.mpr h)]
  · rw [if_neg h, if_neg (fun k => h (mem_I.mp k)), I_snoc]
theorem reach_one (p q out pr : List Nat) (a : Nat) (j : Nat) (hj : j < pr.length) (hp : pr.length ≤ 2) (hl : out.length ≤ 1000) (r : List Int)
    (H : Ev (fun k => spec_l02Reach.l1 k (I p) (I q) (I (st1 out (g pr j))) (a : Int) (I pr) (pr.length : Int) ((j + 1 : Nat) : Int)) r) :
    Ev (fun k => spec_l02Reach.l1 k (I p) (I q) (I out) (a : Int) (I pr) (pr.length : Int) (j : Int)) r := by
  refine ev_succ ?_
  have h1 : (j : Int) < (pr.length : Int) := by omega
  have h2 : (0 : Int) ≤ (j : Int) := by omega
  have h3 := w64s j (by omega)
  have h4 : (I out).length < 17592186044416 := by rw [I_len]; omega
  have hh := has_ev (I out) ((g pr j : Nat) : Int) (by rw [I_len]; omega)
  simp only [spec_l02Reach.l1, h1, h2, h3, h4, rdI, I_len', if_true]
  refine Ev.bind hh ?_
  rw [st1_I] at H
  by_cases hm : ((g pr j : Nat) : Int) ∈ I out
  · rw [if_pos hm] at H
    simp only [hm, decide_true, if_true]
    exact H
  · rw [if_neg hm] at H
    simp only [hm, decide_false, Bool.false_eq_true, if_false]
    exact H
theorem reach_loop {p q : List Nat} (hp : IsP p) (hq : IsP q) (hl : q.length = p.length) (h24 : p.length ≤ 24) (f : Nat) : ∀ (a : Nat) (out : List Nat), RInv p.length out → a ≤ out.length → p.length < f + a →
    Ev (fun k => spec_l02Reach.l0 k (I p) (I q) (I out) (a : Int)) (I (bfs p q f a out)) := by
  induction f with
  | zero =>
    intro a out hr ha hf
    have := hr.le
    omega
  | succ f ih =>
    intro a out hr ha hf
    have hle := hr.le
    refine ev_succ ?_
    by_cases h : a < out.length
    · have h1 : (a : Int) < (out.length : Int) := by omega
      have h2 : (0 : Int) ≤ (a : Int) := by omega
      have hx := hr.g h
      have h3 : ((g out a : Nat) : Int) < (p.length : Int) := by omega
      have h4 : (0 : Int) ≤ ((g out a : Nat) : Int) := by omega
      have h5 : ((g out a : Nat) : Int) < (q.length : Int) := by omega
      have h6 := w64s a (by omega)
      simp only [spec_l02Reach.l0, h1, h2, h3, h4, h5, rdI, I_len', if_true, Option.bind_some, I_pair]
      have r1 := hr.st (g_lt hp hx)
      have r2 := r1.st (x := g q (g out a)) (by have := g_lt hq (i := g out a) (by omega); omega)
      have hb : bfs p q (f + 1) a out = bfs p q f (a + 1) (st1 (st1 out (g p (g out a))) (g q (g out a))) := by
        rw [bfs, if_pos h]
      rw [hb]
      have i1 := ih (a + 1) _ r2 (by have := st1_len out (g p (g out a)); have := st1_len (st1 out (g p (g out a))) (g q (g out a)); omega) (by omega)
      refine reach_one p q out [g p (g out a), g q (g out a)] a 0 (by simp) (by simp) (by omega) _ ?_
      refine reach_one p q _ [g p (g out a), g q (g out a)] a 1 (by simp) (by simp) (by have := r1.le; simp only [g, List.getD_cons_zero] at this ⊢; omega) _ ?_
      refine ev_succ ?_
      have h7 : ¬ (((1 + 1 : Nat) : Int) < (([g p (g out a), g q (g out a)] : List Nat).length : Int)) := by simp
      simp only [spec_l02Reach.l1, h7, h6, if_false]
      exact i1
    · have h1 : ¬ ((a : Int) < (out.length : Int)) := by omega
      have hb : bfs p q (f + 1) a out = out := by rw [bfs, if_neg h]
      rw [hb]
      simp only [spec_l02Reach.l0, h1, I_len', if_false]
      exact Ev.now _
theorem reach_ev {p q : List Nat} (hp : IsP p) (hq : IsP q) (hl : q.length = p.length) (h24 : p.length ≤ 24) (s : Nat) (hs : s < p.length) : Ev (fun k => spec_l02Reach.f k (I p) (I q) (s : Int)) (I (reach p q s)) := by
  unfold spec_l02Reach.f reach
  exact reach_loop hp hq hl h24 (p.length + 1) 0 [s] ⟨by simp, by simpa using hs⟩ (by simp) (by omega)
theorem len_ne_false {r u : List Int} (h : r.length ≠ u.length) : surfB r u = false := by
  unfold surfB
  simp [h]
theorem surfB_mk {r u : List Int} (h1 : permB r = true) (h2 : permB u = true) (h3 : r.length = u.length) (h4 : 0 < r.length) : surfB r u = ((reach (N r) (N u) 0).length == r.length) := by
  unfold surfB
  simp [h1, h2, h3, h4]
  intro _
  omega
theorem spec_trans (r u : List Int) : Ev (fun k => spec_IsTransitive.f k r u) (surfB r u) := by
  unfold spec_IsTransitive.f
  refine Ev.bind (spec_permOk r) ?_
  by_cases h1 : permB r = true
  · simp only [h1, if_true]
    refine Ev.bind (spec_permOk u) ?_
    by_cases h2 : permB u = true
    · simp only [h2, if_true]
      by_cases h3 : (r.length : Int) = (u.length : Int)
      · have h3' : r.length = u.length := by omega
        by_cases h4 : (r.length : Int) > 0
        · have h4' : 0 < r.length := by omega
          rw [surfB_mk h1 h2 h3' h4']
          obtain ⟨p, rfl, a1, a2⟩ := PI_nat (of_decide_eq_true h1)
          obtain ⟨q, rfl, b1, b2⟩ := PI_nat (of_decide_eq_true h2)
          rw [I_len, I_len] at h3'
          rw [I_len] at h4'
          have := reach_ev a1 b1 h3'.symm a2 0 h4'
          simp only [h3, h4, if_true]
          rw [h3] at h4
          simp only [h4, if_true]
          refine Ev.bind this ?_
          rw [N_I, N_I]
          have e : (((I (reach p q 0)).length : Int) == ((I q).length : Int)) = ((reach p q 0).length == (I p).length) := by
            rw [I_len, I_len, I_len, Bool.eq_iff_iff, beq_iff_eq, beq_iff_eq]
            omega
          rw [← h3] at e
          simp only [h3] at e
          rw [← e]
          exact Ev.now _
        · simp only [h3, if_true]
          rw [h3] at h4
          simp only [h4, if_false]
          have : surfB r u = false := by
            unfold surfB
            have : ¬ 0 < r.length := by omega
            simp [this]
          rw [this]
          exact Ev.now _
      · simp only [h3, if_false]
        rw [len_ne_false (by omega)]
        exact Ev.now _
    · have h2' := Bool.eq_false_iff.mpr h2
      simp only [h2', Bool.false_eq_true, if_false]
      have : surfB r u = false := by unfold surfB; simp [h2']
      rw [this]
      exact Ev.now _
  · have h1' := Bool.eq_false_iff.mpr h1
    simp only [h1', Bool.false_eq_true, if_false]
    have : surfB r u = false := by unfold surfB; simp [h1']
    rw [this]
    exact Ev.now _
theorem spec_surf (r u : List Int) : Ev (fun k => spec_SurfaceOk.f k r u) (surfB r u) := by
  unfold spec_SurfaceOk.f
  exact Ev.bind (spec_trans r u) (Ev.now _)
def Marks (n : Nat) (s : List Bool) (out : List Nat) : Prop := s.length = n ∧ ∀ x, x < n → (s.getD x false = true ↔ x ∈ out)
theorem Marks.add {n : Nat} {s : List Bool} {out : List Nat} {x : Nat} (h : Marks n s out) (hx : x < n) : Marks n (s.set x true) (out ++ [x]) := by
  refine ⟨by rw [List.length_set]; exact h.1, fun y hy => ?_⟩
  rw [getD_set s x y (by rw [h.1]; exact hx)]
  by_cases e : x = y
  · subst e
    simp
  · rw [if_neg e, h.2 y hy]
    have : ¬ y = x := fun k => e k.symm
    simp [this]
theorem trans_one (p q out pr : List Nat) (s : List Bool) (a : Nat) (j : Nat) (hj : j < pr.length) (hp : pr.length ≤ 2) (hl : out.length ≤ 1000) (hm : Marks p.length s out) (hx : g pr j < p.length) (r : Bool)
    (H : ∀ s', Marks p.length s' (st1 out (g pr j)) → Ev (fun k => impl_IsTransitive.l1 k (I p) (I q) s' (I (st1 out (g pr j))) (a : Int) (I pr) (pr.length : Int) ((j + 1 : Nat) : Int)) r) :
    Ev (fun k => impl_IsTransitive.l1 k (I p) (I q) s (I out) (a : Int) (I pr) (pr.length : Int) (j : Int)) r := by
  refine ev_succ ?_
  have h1 : (j : Int) < (pr.length : Int) := by omega
  have h2 : (0 : Int) ≤ (j : Int) := by omega
  have h3 := w64s j (by omega)
  have h4 : (I out).length < 17592186044416 := by rw [I_len]; omega
  have h5 : (0 : Int) ≤ ((g pr j : Nat) : Int) := by omega
  have h6 : ((g pr j : Nat) : Int) < (s.length : Int) := by rw [hm.1]; omega
  simp only [impl_IsTransitive.l1, h1, h2, h3, h4, h5, h6, rdI, I_len', rdOf_nat, if_true, Int.toNat_natCast]
  by_cases hin : g pr j ∈ out
  · have hs := (hm.2 _ hx).mpr hin
    have e : st1 out (g pr j) = out := by unfold st1; rw [if_pos hin]
    have := H s (by rw [e]; exact hm)
    rw [e] at this
    simp only [hs, if_true]
    exact this
  · have hs : s.getD (g pr j) false = false := Bool.eq_false_iff.mpr (fun h => hin ((hm.2 _ hx).mp h))
    have e : st1 out (g pr j) = out ++ [g pr j] := by unfold st1; rw [if_neg hin]
    have := H (s.set (g pr j) true) (by rw [e]; exact hm.add hx)
    rw [e, ← I_snoc] at this
    simp only [hs, Bool.false_eq_true, if_false]
    exact this
theorem trans_loop {p q : List Nat} (hp : IsP p) (hq : IsP q) (hl : q.length = p.length) (h24 : p.length ≤ 24) (f : Nat) : ∀ (a : Nat) (out : List Nat) (s : List Bool), RInv p.length out → Marks p.length s out → a ≤ out.length → p.length < f + a →
    Ev (fun k => impl_IsTransitive.l0 k (I p) (I q) s (I out) (a : Int)) ((bfs p q f a out).length == p.length) := by
  induction f with
  | zero =>
    intro a out s hr hm ha hf
    have := hr.le
    omega
  | succ f ih =>
    intro a out s hr hm ha hf
    have hle := hr.le
    refine ev_succ ?_
    by_cases h : a < out.length
    · have h1 : (a : Int) < (out.length : Int) := by omega
      have h2 : (0 : Int) ≤ (a : Int) := by omega
      have hx := hr.g h
      have h3 : ((g out a : Nat) : Int) < (p.length : Int) := by omega
      have h4 : (0 : Int) ≤ ((g out a : Nat) : Int) := by omega
      have h5 : ((g out a : Nat) : Int) < (q.length : Int) := by omega
      have h6 := w64s a (by omega)
      simp only [impl_IsTransitive.l0, h1, h2, h3, h4, h5, rdI, I_len', if_true, Option.bind_some, I_pair]
      have hg1 := g_lt hp hx
      have hg2 : g q (g out a) < p.length := by have := g_lt hq (i := g out a) (by omega); omega
      have r1 := hr.st hg1
      have r2 := r1.st hg2
      have hb : bfs p q (f + 1) a out = bfs p q f (a + 1) (st1 (st1 out (g p (g out a))) (g q (g out a))) := by
        rw [bfs, if_pos h]
      rw [hb]
      refine trans_one p q out [g p (g out a), g q (g out a)] s a 0 (by simp) (by simp) (by omega) hm hg1 _ (fun s1 hm1 => ?_)
      refine trans_one p q _ [g p (g out a), g q (g out a)] s1 a 1 (by simp) (by simp) (by have := r1.le; simp only [g, List.getD_cons_zero] at this ⊢; omega) hm1 hg2 _ (fun s2 hm2 => ?_)
      refine ev_succ ?_
      have h7 : ¬ (((1 + 1 : Nat) : Int) < (([g p (g out a), g q (g out a)] : List Nat).length : Int)) := by simp
      simp only [impl_IsTransitive.l1, h7, h6, if_false]
      exact ih (a + 1) _ s2 r2 hm2 (Nat.le_trans (by omega : a + 1 ≤ out.length) (Nat.le_trans (st1_len _ _) (st1_len _ _))) (by omega)
    · have h1 : ¬ ((a : Int) < (out.length : Int)) := by omega
      have hb : bfs p q (f + 1) a out = out := by rw [bfs, if_neg h]
      rw [hb]
      simp only [impl_IsTransitive.l0, h1, I_len', if_false]
      have e : ((out.length : Int) == (p.length : Int)) = (out.length == p.length) := by
        rw [Bool.eq_iff_iff, beq_iff_eq, beq_iff_eq]
        omega
      rw [e]
      exact Ev.now _
theorem j0_true (r u : List Int) : Ev (fun k => impl_IsTransitive.j0 k r u true) false := by
  refine ev_succ ?_
  simp only [impl_IsTransitive.j0, if_true]
  exact Ev.now _
theorem impl_trans (r u : List Int) : Ev (fun k => impl_IsTransitive.f k r u) (surfB r u) := by
  unfold impl_IsTransitive.f
  refine Ev.bind (impl_permOk r) ?_
  by_cases h1 : permB r = true
  · simp only [h1, if_true]
    refine Ev.bind (impl_permOk u) ?_
    by_cases h2 : permB u = true
    · simp only [h2, if_true]
      by_cases h3 : (r.length : Int) = (u.length : Int)
      · have h3' : r.length = u.length := by omega
        simp only [h3, if_true]
        by_cases h4 : 0 < r.length
        · rw [surfB_mk h1 h2 h3' h4]
          obtain ⟨p, rfl, a1, a2⟩ := PI_nat (of_decide_eq_true h1)
          obtain ⟨q, rfl, b1, b2⟩ := PI_nat (of_decide_eq_true h2)
          rw [I_len, I_len] at h3'
          rw [I_len] at h4
          refine ev_succ ?_
          have e0 : ((q.length : Int) == 0) = false := by rw [beq_eq_false_iff_ne]; omega
          have e1 : (0 : Int) ≤ (p.length : Int) := by omega
          have e2 : ((p.length : Int)).toNat ≤ 281474976710656 := by omega
          have e3 : (0 : Int) < ((List.replicate p.length false).length : Int) := by rw [List.length_replicate]; omega
          simp only [impl_IsTransitive.j0, e0, I_len', e1, e2, Bool.false_eq_true, if_true, if_false, Option.bind_some, Int.toNat_natCast, e3]
          simp only [Int.toNat_natCast] at e2
          simp only [e2, if_true]
          rw [N_I, N_I, I_len]
          refine trans_loop a1 b1 h3'.symm a2 (p.length + 1) 0 [0] _ ⟨by simp, by simpa using h4⟩ ?_ (by simp) (by omega)
          refine ⟨by simp, fun x hx => ?_⟩
          have : (0 : Int).toNat = 0 := rfl
          rw [this, getD_set _ 0 x (by simp; omega)]
          by_cases e : 0 = x
          · subst e
            simp
          · rw [if_neg e]
            have h0 : ¬ x = 0 := fun h => e h.symm
            have : (List.replicate p.length false).getD x false = false := by
              rw [List.getD_eq_getElem?_getD, List.getElem?_replicate]
              simp [hx]
            rw [this]
            simp [h0]
        · have e0 : ((u.length : Int) == 0) = true := by rw [beq_iff_eq]; omega
          have : surfB r u = false := by unfold surfB; simp [h4]
          rw [this]
          simp only [e0]
          exact j0_true r u
      · simp only [h3, if_false]
        rw [len_ne_false (by omega)]
        exact j0_true r u
    · have h2' := Bool.eq_false_iff.mpr h2
      simp only [h2', Bool.false_eq_true, if_false]
      have : surfB r u = false := by unfold surfB; simp [h2']
      rw [this]
      exact j0_true r u
  · have h1' := Bool.eq_false_iff.mpr h1
    simp only [h1', Bool.false_eq_true, if_false]
    have : surfB r u = false := by unfold surfB; simp [h1']
    rw [this]
    exact j0_true r u
theorem impl_surf (r u : List Int) : Ev (fun k => impl_SurfaceOk.f k r u) (surfB r u) := by
  unfold impl_SurfaceOk.f
  exact Ev.bind (impl_trans r u) (Ev.now _)
end Go.Proofs.Ytbdnellgioimbaa.M
end
section
/- What every law does with its arguments; inverses. No conditions. -/
namespace Go.Proofs.Ytbdnellgioimbaa.M
set_option linter.unusedVariables false
set_option linter.unusedSimpArgs false
open Go.RowKit Go.Proofs.YtbdnellgioimbaaW.PrintWords Go.Proofs.YtbdnellgioimbaaW.PrintLast Go.Proofs.YtbdnellgioimbaaW.PrintMore Go.Proofs.Ytbdnellgioimbaa.A
theorem rd_set {l : List Int} {i j : Nat} {x : Int} (h : i < l.length) : rd (l.set i x) (j : Int) = if i = j then x else rd l (j : Int) := by
  unfold rd
  simp only [Int.toNat_natCast]
  rw [List.getD_eq_getElem?_getD, List.getD_eq_getElem?_getD, List.getElem?_set]
  by_cases e : i = j
  · subst e
    simp [h]
  · simp [e]
theorem ext_rd {a b : List Int} (hl : a.length = b.length) (h : ∀ i : Nat, i < a.length → rd a (i : Int) = rd b (i : Int)) : a = b := by
  apply List.ext_getElem hl
  intro i h1 h2
  rw [← rd_get a i h1, ← rd_get b i h2]
  exact h i h1
theorem sz_small {r u : List Int} (h : r.length + u.length ≤ 1048576) : laws_szSurface.f r u 1048576 = some (1048576 - (r.length : Int) - (u.length : Int)) := by
  unfold laws_szSurface.f laws_szIntS.f
  have e1 : wrap64 (1048576 - (r.length : Int)) = 1048576 - (r.length : Int) := w64 (by omega) (by omega)
  have e2 : wrap64 (1048576 - (r.length : Int) - (u.length : Int)) = 1048576 - (r.length : Int) - (u.length : Int) := w64 (by omega) (by omega)
  have c1 : ¬ (1048576 - (r.length : Int) < 0) := by omega
  have c2 : ¬ (1048576 - (r.length : Int) - (u.length : Int) < 0) := by omega
  simp only [e1, c1, if_false, Option.bind_some, e2, c2]
theorem sz_big {r u : List Int} (hr : r.length ≤ 9223372036854775807) (hu : u.length ≤ 9223372036854775807) (h : ¬ r.length + u.length ≤ 1048576) : laws_szSurface.f r u 1048576 = some (-1) := by
  unfold laws_szSurface.f laws_szIntS.f
  have e1 : wrap64 (1048576 - (r.length : Int)) = 1048576 - (r.length : Int) := w64 (by omega) (by omega)
  by_cases c1 : 1048576 - (r.length : Int) < 0
  · have c3 : (-1 : Int) < 0 := by omega
    simp only [e1, c1, if_true, Option.bind_some, c3]
  · have e2 : wrap64 (1048576 - (r.length : Int) - (u.length : Int)) = 1048576 - (r.length : Int) - (u.length : Int) := w64 (by omega) (by omega)
    have c2 : 1048576 - (r.length : Int) - (u.length : Int) < 0 := by omega
    have c3 : (-1 : Int) < 0 := by omega
    simp only [e1, c1, if_false, Option.bind_some, e2, c2, if_true, c3]
theorem toInts_ev (l : List Int) (h : l.length ≤ 1048576) : Ev (fun k => laws_toIntS.f k l) l := by
  unfold laws_toIntS.f
  have h1 : (0 : Int) ≤ (l.length : Int) := by omega
  have h2 : ((l.length : Int)).toNat ≤ 35184372088832 := by omega
  simp only [h1, h2, if_true]
  have H : ∀ (d i : Nat) (c : List Int), i + d = l.length → c.length = l.length → (∀ j : Nat, j < i → rd c (j : Int) = rd l (j : Int)) → Ev (fun k => laws_toIntS.l0 k l c (i : Int)) l := by
    intro d
    induction d with
    | zero =>
      intro i c h hc hx
      refine ev_succ ?_
      have h1 : ¬ ((i : Int) < (l.length : Int)) := by omega
      have e : c = l := ext_rd hc (fun j hj => hx j (by omega))
      simp only [laws_toIntS.l0, h1, if_false]
      rw [e]
      exact Ev.now _
    | succ d ih =>
      intro i c h hc hx
      refine ev_succ ?_
      have h1 : (i : Int) < (l.length : Int) := by omega
      have h2 : (0 : Int) ≤ (i : Int) := by omega
      have h3 : (i : Int) < (c.length : Int) := by omega
      have h4 := w64s i (by omega)
      simp only [laws_toIntS.l0, h1, h2, h3, h4, if_true, Int.toNat_natCast]
      refine ih (i + 1) _ (by omega) (by rw [List.length_set]; exact hc) (fun j hj => ?_)
      rw [rd_set (by omega)]
      by_cases e : i = j
      · subst e
        simp
      · rw [if_neg e]
        exact hx j (by omega)
  exact H l.length 0 _ (by omega) (by rw [List.length_replicate]; omega) (fun j hj => by omega)
theorem toSurf_ev (r u : List Int) (hr : r.length ≤ 1048576) (hu : u.length ≤ 1048576) : Ev (fun k => laws_toSurface.f k r u) (r, u) := by
  unfold laws_toSurface.f
  exact Ev.bind (toInts_ev r hr) (Ev.bind (toInts_ev u hu) (Ev.now _))
theorem eqInts_ev (a b : List Int) (ha : a.length ≤ 9000000000000000000) : Ev (fun k => laws_eqIntS.f k a b) (decide (a = b)) := by
  unfold laws_eqIntS.f
  by_cases hl : (a.length : Int) = (b.length : Int)
  · simp only [hl, if_true]
    have hl' : a.length = b.length := by omega
    have H : ∀ d i : Nat, i + d = a.length → ∃ c, Ev (fun k => laws_eqIntS.l0 k a b (i : Int)) c ∧ (c = true ↔ ∀ j : Nat, i ≤ j → j < a.length → rd a (j : Int) = rd b (j : Int)) := by
      intro d
      induction d with
      | zero =>
        intro i h
        refine ⟨true, ev_succ ?_, by simp; intro j h1 h2; omega⟩
        have h1 : ¬ ((i : Int) < (a.length : Int)) := by omega
        simp only [laws_eqIntS.l0, h1, if_false]
        exact Ev.now _
      | succ d ih =>
        intro i h
        have h1 : (i : Int) < (a.length : Int) := by omega
        have h2 : (0 : Int) ≤ (i : Int) := by omega
        have h3 : (i : Int) < (b.length : Int) := by omega
        have h4 := w64s i (by omega)
        by_cases c : rd a (i : Int) = rd b (i : Int)
        · obtain ⟨c', i1, i2⟩ := ih (i + 1) (by omega)
          refine ⟨c', ev_succ ?_, by
            rw [i2]
            constructor
            · intro k j j1 j2
              by_cases e : j = i
              · subst e; exact c
              · exact k j (by omega) j2
            · intro k j j1 j2
              exact k j (by omega) j2⟩
          simp only [laws_eqIntS.l0, h1, h2, h3, h4, c, if_true]
          exact i1
        · refine ⟨false, ev_succ ?_, by
            simp only [Bool.false_eq_true, false_iff]
            intro k
            exact c (k i (Nat.le_refl _) (by omega))⟩
          simp only [laws_eqIntS.l0, h1, h2, h3, c, if_true, if_false]
          exact Ev.now _
    obtain ⟨c, i1, i2⟩ := H a.length 0 (by omega)
    have : decide (a = b) = c := by
      rw [Bool.eq_iff_iff, i2, decide_eq_true_iff]
      constructor
      · intro e j _ _
        rw [e]
      · intro k
        exact ext_rd hl' (fun j hj => k j (Nat.zero_le _) hj)
    rw [this]
    exact i1
  · simp only [hl, if_false]
    have : decide (a = b) = false := by
      rw [decide_eq_false_iff_not]
      intro e
      exact hl (by rw [e])
    rw [this]
    exact Ev.now _
theorem eqInts_same (a : List Int) (ha : a.length ≤ 9000000000000000000) : Ev (fun k => laws_eqIntS.f k a a) true := by
  have := eqInts_ev a a ha
  simpa using this
theorem eqSurf_same (r u : List Int) (hr : r.length ≤ 9000000000000000000) (hu : u.length ≤ 9000000000000000000) : Ev (fun k => laws_eqSurface.f k r u r u) true := by
  unfold laws_eqSurface.f
  refine Ev.bind (eqInts_same r hr) ?_
  simp only [if_true]
  refine Ev.bind (eqInts_same u hu) ?_
  simp only [if_true]
  exact Ev.now _
theorem inv_of {p c : List Nat} (hp : IsP p) (hc : c.length = p.length) (h : ∀ j, j < p.length → g c (g p j) = j) : c = inv p := by
  refine ext_g (by rw [inv_len, hc]) (fun x hx => ?_)
  rw [hc] at hx
  rw [g_inv hx]
  have := h (ix p x) (ix_lt hp hx)
  rw [g_ix hp hx] at this
  exact this
theorem inv_step {p c : List Nat} (hp : IsP p) {i : Nat} (hi : i < p.length) (hc : c.length = p.length) (h : ∀ j, j < i → g c (g p j) = j) : ∀ j, j < i + 1 → g (c.set (g p i) i) (g p j) = j := by
  intro j hj
  rw [g_set (by rw [hc]; exact g_lt hp hi)]
  by_cases e : j = i
  · subst e
    simp
  · rw [if_neg (fun k => e (g_inj hp (by omega) hi k.symm))]
    exact h j (by omega)
theorem spec_inv {p : List Nat} (hp : IsP p) (h24 : p.length ≤ 24) : Ev (fun k => spec_l02Inverse.f k (I p)) (I (inv p)) := by
  unfold spec_l02Inverse.f
  have H : ∀ (d i : Nat) (c : List Nat), i + d = p.length → c.length = p.length → (∀ j, j < i → g c (g p j) = j) → Ev (fun k => spec_l02Inverse.l0 k (I c) (I p) (p.length : Int) (i : Int)) (I (inv p)) := by
    intro d
    induction d with
    | zero =>
      intro i c h hc hx
      refine ev_succ ?_
      have h1 : ¬ ((i : Int) < (p.length : Int)) := by omega
      rw [← inv_of hp hc (fun j hj => hx j (by omega))]
      simp only [spec_l02Inverse.l0, h1, if_false]
      exact Ev.now _
    | succ d ih =>
      intro i c h hc hx
      refine ev_succ ?_
      have hi : i < p.length := by omega
      have h1 : (i : Int) < (p.length : Int) := by omega
      have h2 : (0 : Int) ≤ (i : Int) := by omega
      have h3 := w64s i (by omega)
      have h4 : (0 : Int) ≤ ((g p i : Nat) : Int) := by omega
      have h5 : ((g p i : Nat) : Int) < (c.length : Int) := by have := g_lt hp hi; omega
      simp only [spec_l02Inverse.l0, h1, h2, h3, h4, h5, rdI, I_len', I_set, if_true, Int.toNat_natCast]
      exact ih (i + 1) _ (by omega) (by rw [List.length_set]; exact hc) (inv_step hp hi hc hx)
  have h1 : (0 : Int) ≤ (p.length : Int) := by omega
  have h2 : p.length ≤ 35184372088832 := by omega
  simp only [I_len', h1, h2, if_true, Int.toNat_natCast]
  have := H p.length 0 (List.replicate p.length 0) (by omega) (by simp) (fun j hj => by omega)
  rw [I_rep] at this
  exact this
theorem impl_inv {p : List Nat} (hp : IsP p) (h24 : p.length ≤ 24) : Ev (fun k => impl_InversePerm.f k (I p)) (I (inv p)) := by
  unfold impl_InversePerm.f
  have H : ∀ (d i : Nat) (c : List Nat), i + d = p.length → c.length = p.length → (∀ j, j < i → g c (g p j) = j) → Ev (fun k => impl_InversePerm.l0 k (I c) (I p) (p.length : Int) (i : Int)) (I (inv p)) := by
    intro d
    induction d with
    | zero =>
      intro i c h hc hx
      refine ev_succ ?_
      have h1 : ¬ ((i : Int) < (p.length : Int)) := by omega
      rw [← inv_of hp hc (fun j hj => hx j (by omega))]
      simp only [impl_InversePerm.l0, h1, if_false]
      exact Ev.now _
    | succ d ih =>
      intro i c h hc hx
      refine ev_succ ?_
      have hi : i < p.length := by omega
      have h1 : (i : Int) < (p.length : Int) := by omega
      have h2 : (0 : Int) ≤ (i : Int) := by omega
      have h3 := w64s i (by omega)
      have h4 : (0 : Int) ≤ ((g p i : Nat) : Int) := by omega
      have h5 : ((g p i : Nat) : Int) < (c.length : Int) := by have := g_lt hp hi; omega
      simp only [impl_InversePerm.l0, h1, h2, h3, h4, h5, rdI, I_len', I_set, if_true, Int.toNat_natCast]
      exact ih (i + 1) _ (by omega) (by rw [List.length_set]; exact hc) (inv_step hp hi hc hx)
  refine Ev.bind (impl_permOk (I p)) ?_
  have h0 : permB (I p) = true := permB_I.mpr ⟨hp, h24⟩
  have h1 : (0 : Int) ≤ (p.length : Int) := by omega
  have h2 : p.length ≤ 35184372088832 := by omega
  simp only [h0, I_len', h1, h2, if_true, Int.toNat_natCast]
  have := H p.length 0 (List.replicate p.length 0) (by omega) (by simp) (fun j hj => by omega)
  rw [I_rep] at this
  exact this
end Go.Proofs.Ytbdnellgioimbaa.M
end
section
/- Cycles: the program and the reference answer alike. No conditions. -/
namespace Go.Proofs.Ytbdnellgioimbaa.M
set_option linter.unusedVariables false
set_option linter.unusedSimpArgs false
open Go.RowKit Go.Proofs.YtbdnellgioimbaaW.PrintWords Go.Proofs.YtbdnellgioimbaaW.PrintLast Go.Proofs.YtbdnellgioimbaaW.PrintMore Go.Proofs.Ytbdnellgioimbaa.A
def I2 (l : List (List Nat)) : List (List Int) := l.map I
theorem I2_len (l : List (List Nat)) : (I2 l).length = l.length := by simp [I2]
theorem I2_snoc (l : List (List Nat)) (c : List Nat) : I2 l ++ [I c] = I2 (l ++ [c]) := by simp [I2]
theorem cyc_len (p : List Nat) (i : Nat) : (cyc p i).length ≤ i := by
  induction i with
  | zero => simp [cyc]
  | succ i ih =>
    unfold cyc
    split
    · omega
    · simp
      omega
theorem orbTo_len (p : List Nat) (s m : Nat) : (orbTo p s m).length = m := by simp [orbTo]
theorem mem_flat {l : List (List Nat)} {x : Nat} : x ∈ l.flatten ↔ ∃ c ∈ l, x ∈ c := by simp
theorem cyc_next {p : List Nat} (hp : IsP p) {i m : Nat} (hi : i < p.length) (hnew : ¬ ∃ c ∈ cyc p i, i ∈ c) (hm : m < per p i) : itr p m i ∉ (cyc p i).flatten ++ orbTo p i m := by
  intro h
  rcases List.mem_append.mp h with h | h
  · exact cyc_new hp hi hnew ((mem_orb hp hi).mpr ⟨m, rfl⟩) (mem_flat.mp h)
  · by_cases e : m = 0
    · subst e
      simp [orbTo] at h
    · exact orb_close hp hi hm (by omega) h
theorem cyc_shut {p : List Nat} (hp : IsP p) {i : Nat} (hi : i < p.length) : itr p (per p i) i ∈ (cyc p i).flatten ++ orbTo p i (per p i) := by
  rw [(per_spec hp hi).1]
  exact List.mem_append.mpr (.inr (orb_self hp hi))
theorem cyc_succ_new {p : List Nat} {i : Nat} (hnew : ¬ ∃ c ∈ cyc p i, i ∈ c) : cyc p (i + 1) = cyc p i ++ [orb p i] := by
  rw [cyc, if_neg hnew]
theorem cyc_succ_old {p : List Nat} {i : Nat} (h : ∃ c ∈ cyc p i, i ∈ c) : cyc p (i + 1) = cyc p i := by
  rw [cyc, if_pos h]
theorem marks_rep (n : Nat) : Marks n (List.replicate n false) ([] : List Nat) := by
  refine ⟨by simp, fun x hx => ?_⟩
  rw [List.getD_eq_getElem?_getD, List.getElem?_replicate]
  simp [hx]
theorem impl_cycles {p : List Nat} (hp : IsP p) (h24 : p.length ≤ 24) : Ev (fun k => impl_CyclesOf.f k (I p)) (I2 (cycles p)) := by
  unfold impl_CyclesOf.f
  refine Ev.bind (impl_permOk (I p)) ?_
  have h0 : permB (I p) = true := permB_I.mpr ⟨hp, h24⟩
  have h1 : (0 : Int) ≤ (p.length : Int) := by omega
  have h2 : p.length ≤ 281474976710656 := by omega
  simp only [h0, I_len', h1, h2, if_true, Int.toNat_natCast]
  have H : ∀ (d i : Nat) (s : List Bool), i + d = p.length → Marks p.length s (cyc p i).flatten → Ev (fun k => impl_CyclesOf.l0 k (I p) s (I2 (cyc p i)) (p.length : Int) (i : Int)) (I2 (cycles p)) := by
    intro d
    induction d with
    | zero =>
      intro i s h hm
      obtain rfl : i = p.length := by omega
      refine ev_succ ?_
      have h1 : ¬ ((p.length : Int) < (p.length : Int)) := by omega
      simp only [impl_CyclesOf.l0, h1, if_false]
      exact Ev.now _
    | succ d ih =>
      intro i s h hm
      have hi : i < p.length := by omega
      have c1 : (i : Int) < (p.length : Int) := by omega
      have c2 : (0 : Int) ≤ (i : Int) := by omega
      have c3 : (i : Int) < (s.length : Int) := by have := hm.1; omega
      have h3 := w64s i (by omega)
      refine ev_succ ?_
      by_cases hs : s.getD i false = true
      · have ho := mem_flat.mp ((hm.2 i hi).mp hs)
        simp only [impl_CyclesOf.l0, c1, c2, c3, rdOf_nat, hs, if_true, h3]
        have := ih (i + 1) s (by omega) (by rw [cyc_succ_old ho]; exact hm)
        rw [cyc_succ_old ho] at this
        exact this
      · have hnew : ¬ ∃ c ∈ cyc p i, i ∈ c := fun h => hs ((hm.2 i hi).mpr (mem_flat.mpr h))
        simp only [impl_CyclesOf.l0, c1, c2, c3, rdOf_nat, hs, if_true, if_false]
        have G : ∀ (e m : Nat) (t : List Bool), m + e = per p i → Marks p.length t ((cyc p i).flatten ++ orbTo p i m) → Ev (fun k => impl_CyclesOf.l1 k (I p) t (I2 (cyc p i)) (I (orbTo p i m)) ((itr p m i : Nat) : Int) (p.length : Int) (i : Int)) (I2 (cycles p)) := by
          intro e
          induction e with
          | zero =>
            intro m t he ht
            obtain rfl : m = per p i := by omega
            refine ev_succ ?_
            have hx := itr_lt hp (per p i) hi
            have d1 : (0 : Int) ≤ ((itr p (per p i) i : Nat) : Int) := by omega
            have d2 : ((itr p (per p i) i : Nat) : Int) < (t.length : Int) := by have := ht.1; omega
            have d3 := (ht.2 _ hx).mpr (cyc_shut hp hi)
            have d4 : (I2 (cyc p i)).length < 5864062014805 := by rw [I2_len]; have := cyc_len p i; omega
            simp only [impl_CyclesOf.l1, d1, d2, rdOf_nat, d3, d4, if_true, h3]
            have := ih (i + 1) t (by omega) (by rw [cyc_succ_new hnew]; simpa [orb] using ht)
            rw [cyc_succ_new hnew, ← I2_snoc] at this
            exact this
          | succ e ihe =>
            intro m t he ht
            refine ev_succ ?_
            have hx := itr_lt hp m hi
            have hn := cyc_next hp hi hnew (m := m) (by omega)
            have d1 : (0 : Int) ≤ ((itr p m i : Nat) : Int) := by omega
            have d2 : ((itr p m i : Nat) : Int) < (t.length : Int) := by have := ht.1; omega
            have d3 : ¬ t.getD (itr p m i) false = true := fun k => hn ((ht.2 _ hx).mp k)
            have d4 : (I (orbTo p i m)).length < 17592186044416 := by rw [I_len, orbTo_len]; have := (per_spec hp hi).2.1; omega
            have d5 : ((itr p m i : Nat) : Int) < (p.length : Int) := by omega
            simp only [impl_CyclesOf.l1, d1, d2, rdOf_nat, d3, d4, d5, I_len', if_true, if_false, rdI, Int.toNat_natCast, I_snoc, orbTo_snoc]
            have := ihe (m + 1) (t.set (itr p m i) true) (by omega) (by
              have := ht.add hx
              rw [List.append_assoc, orbTo_snoc] at this
              exact this)
            exact this
        have := G (per p i) 0 s (by omega) (by simpa [orbTo] using hm)
        exact this
  exact H p.length 0 _ (by omega) (by simpa [cyc] using marks_rep p.length)
theorem spec_cycles {p : List Nat} (hp : IsP p) (h24 : p.length ≤ 24) : Ev (fun k => spec_CyclesOf.f k (I p)) (I2 (cycles p)) := by
  unfold spec_CyclesOf.f
  refine Ev.bind (spec_permOk (I p)) ?_
  have h0 : permB (I p) = true := permB_I.mpr ⟨hp, h24⟩
  have h1 : (0 : Int) ≤ (p.length : Int) := by omega
  have h2 : p.length ≤ 281474976710656 := by omega
  simp only [h0, I_len', h1, h2, if_true, Int.toNat_natCast]
  have H : ∀ (d i : Nat) (s : List Bool), i + d = p.length → Marks p.length s (cyc p i).flatten → Ev (fun k => spec_CyclesOf.l0 k (I p) (I2 (cyc p i)) s (p.length : Int) (i : Int)) (I2 (cycles p)) := by
    intro d
    induction d with
    | zero =>
      intro i s h hm
      obtain rfl : i = p.length := by omega
      refine ev_succ ?_
      have h1 : ¬ ((p.length : Int) < (p.length : Int)) := by omega
      simp only [spec_CyclesOf.l0, h1, if_false]
      exact Ev.now _
    | succ d ih =>
      intro i s h hm
      have hi : i < p.length := by omega
      have c1 : (i : Int) < (p.length : Int) := by omega
      have c2 : (0 : Int) ≤ (i : Int) := by omega
      have c3 : (i : Int) < (s.length : Int) := by have := hm.1; omega
      have h3 := w64s i (by omega)
      refine ev_succ ?_
      simp only [spec_CyclesOf.l0, c1, if_true]
      by_cases hs : s.getD i false = true
      · have ho := mem_flat.mp ((hm.2 i hi).mp hs)
        refine ev_succ ?_
        have d0 : ¬ ((([] : List Int).length : Int) > 0) := by simp
        simp only [spec_CyclesOf.l1, c2, c3, rdOf_nat, hs, if_true, d0, if_false, h3]
        have := ih (i + 1) s (by omega) (by rw [cyc_succ_old ho]; exact hm)
        rw [cyc_succ_old ho] at this
        exact this
      · have hnew : ¬ ∃ c ∈ cyc p i, i ∈ c := fun h => hs ((hm.2 i hi).mpr (mem_flat.mpr h))
        have G : ∀ (e m : Nat) (t : List Bool), m + e = per p i → Marks p.length t ((cyc p i).flatten ++ orbTo p i m) → Ev (fun k => spec_CyclesOf.l1 k (I p) (I2 (cyc p i)) t (I (orbTo p i m)) ((itr p m i : Nat) : Int) (p.length : Int) (i : Int)) (I2 (cycles p)) := by
          intro e
          induction e with
          | zero =>
            intro m t he ht
            obtain rfl : m = per p i := by omega
            refine ev_succ ?_
            have hx := itr_lt hp (per p i) hi
            have hper := per_pos p i
            have d1 : (0 : Int) ≤ ((itr p (per p i) i : Nat) : Int) := by omega
            have d2 : ((itr p (per p i) i : Nat) : Int) < (t.length : Int) := by have := ht.1; omega
            have d3 := (ht.2 _ hx).mpr (cyc_shut hp hi)
            have d4 : (I2 (cyc p i)).length < 5864062014805 := by rw [I2_len]; have := cyc_len p i; omega
            have d0 : ((I (orbTo p i (per p i))).length : Int) > 0 := by rw [I_len, orbTo_len]; omega
            simp only [spec_CyclesOf.l1, d1, d2, rdOf_nat, d3, d4, d0, if_true, h3]
            have := ih (i + 1) t (by omega) (by rw [cyc_succ_new hnew]; simpa [orb] using ht)
            rw [cyc_succ_new hnew, ← I2_snoc] at this
            exact this
          | succ e ihe =>
            intro m t he ht
            refine ev_succ ?_
            have hx := itr_lt hp m hi
            have hn := cyc_next hp hi hnew (m := m) (by omega)
            have d1 : (0 : Int) ≤ ((itr p m i : Nat) : Int) := by omega
            have d2 : ((itr p m i : Nat) : Int) < (t.length : Int) := by have := ht.1; omega
            have d3 : ¬ t.getD (itr p m i) false = true := fun k => hn ((ht.2 _ hx).mp k)
            have d4 : (I (orbTo p i m)).length < 17592186044416 := by rw [I_len, orbTo_len]; have := (per_spec hp hi).2.1; omega
            have d5 : ((itr p m i : Nat) : Int) < (p.length : Int) := by omega
            simp only [spec_CyclesOf.l1, d1, d2, rdOf_nat, d3, d4, d5, I_len', if_true, if_false, rdI, Int.toNat_natCast, I_snoc, orbTo_snoc]
            have := ihe (m + 1) (t.set (itr p m i) true) (by omega) (by
              have := ht.add hx
              rw [List.append_assoc, orbTo_snoc] at this
              exact this)
            exact this
        have := G (per p i) 0 s (by omega) (by simpa [orbTo] using hm)
        exact this
  exact H p.length 0 _ (by omega) (by simpa [cyc] using marks_rep p.length)
end Go.Proofs.Ytbdnellgioimbaa.M
end
section
/- Marks on lists of lists. No conditions. -/
namespace Go.Proofs.Ytbdnellgioimbaa.M
set_option linter.unusedVariables false
set_option linter.unusedSimpArgs false
open Go.RowKit Go.Proofs.YtbdnellgioimbaaW.PrintWords Go.Proofs.YtbdnellgioimbaaW.PrintLast Go.Proofs.YtbdnellgioimbaaW.PrintMore Go.Proofs.Ytbdnellgioimbaa.A
def totL (xs : List (List Int)) : Nat := (xs.map List.length).sum
theorem getD_mid {α : Type} (p : List α) (x : α) (xs : List α) (d : α) : (p ++ x :: xs).getD p.length d = x := by
  rw [List.getD_eq_getElem?_getD, List.getElem?_append_right (Nat.le_refl _)]
  simp
end Go.Proofs.Ytbdnellgioimbaa.M
end
section
/- Rows: the program and the reference answer alike. No conditions. -/
namespace Go.Proofs.Ytbdnellgioimbaa.M
set_option linter.unusedVariables false
set_option linter.unusedSimpArgs false
open Go.RowKit Go.Proofs.YtbdnellgioimbaaW.PrintWords Go.Proofs.YtbdnellgioimbaaW.PrintLast Go.Proofs.YtbdnellgioimbaaW.PrintMore Go.Proofs.Ytbdnellgioimbaa.A
theorem cyc_flat_lt {p : List Nat} (hp : IsP p) : ∀ i, i ≤ p.length → (∀ x ∈ (cyc p i).flatten, x < p.length) ∧ (cyc p i).flatten.Nodup := by
  intro i
  induction i with
  | zero => intro _; simp [cyc]
  | succ i ih =>
    intro hi
    obtain ⟨h1, h2⟩ := ih (by omega)
    by_cases h : ∃ c ∈ cyc p i, i ∈ c
    · rw [cyc_succ_old h]
      exact ⟨h1, h2⟩
    · rw [cyc_succ_new h]
      simp only [List.flatten_append, List.flatten_cons, List.flatten_nil, List.append_nil]
      have hi' : i < p.length := by omega
      have ho : (orb p i).Nodup := by
        unfold orb orbTo
        refine List.pairwise_map.mpr ?_
        refine List.pairwise_iff_getElem.mpr ?_
        intro a b ha hb hab
        rw [List.length_range] at ha hb
        rw [List.getElem_range, List.getElem_range]
        intro e
        have hb0 : b < per p i := hb
        exact orb_close hp hi' hb0 (by omega) (mem_orbTo.mpr ⟨a, hab, e⟩)
      refine ⟨fun x hx => ?_, List.nodup_append.mpr ⟨h2, ho, fun a ha b hb e => ?_⟩⟩
      · rcases List.mem_append.mp hx with hx | hx
        · exact h1 x hx
        · exact orb_lt hp hi' hx
      · subst e
        exact cyc_new hp hi' h hb (mem_flat.mp ha)
theorem cycles_len {p : List Nat} (h24 : p.length ≤ 24) : (cycles p).length ≤ 24 := Nat.le_trans (cyc_len p p.length) h24
theorem cycle_len {p : List Nat} (hp : IsP p) (h24 : p.length ≤ 24) : ∀ c ∈ cycles p, c.length ≤ 24 := by
  intro c hc
  obtain ⟨s, hs, rfl⟩ := cyc_form p p.length c hc
  unfold orb
  rw [orbTo_len]
  have := (per_spec hp hs).2.1
  omega
structure SmallSS (l : List (List Int)) : Prop where
  n : l.length ≤ 24
  m : ∀ x ∈ l, x.length ≤ 24
  t : totL l ≤ 1000
end Go.Proofs.Ytbdnellgioimbaa.M
end
section
/- One round about a corner; first places in lists. No conditions. -/
namespace Go.Proofs.Ytbdnellgioimbaa.M
set_option linter.unusedVariables false
set_option linter.unusedSimpArgs false
open Go.RowKit Go.Proofs.YtbdnellgioimbaaW.PrintWords Go.Proofs.YtbdnellgioimbaaW.PrintLast Go.Proofs.YtbdnellgioimbaaW.PrintMore Go.Proofs.Ytbdnellgioimbaa.A
theorem impl_then {p q : List Nat} (hp : IsP p) (hq : IsP q) (hl : p.length = q.length) (h24 : p.length ≤ 24) : Ev (fun k => impl_ThenPerm.f k (I p) (I q)) (I (thn p q)) := by
  unfold impl_ThenPerm.f
  refine Ev.bind (impl_permOk (I p)) ?_
  have e1 : permB (I p) = true := permB_I.mpr ⟨hp, h24⟩
  have e2 : permB (I q) = true := permB_I.mpr ⟨hq, by omega⟩
  simp only [e1, if_true]
  refine Ev.bind (impl_permOk (I q)) ?_
  have e3 : ((p.length : Int) != (q.length : Int)) = false := by simp [hl]
  simp only [e2, if_true, I_len', e3]
  refine ev_succ ?_
  have h1 : (0 : Int) ≤ (p.length : Int) := by omega
  have h2 : p.length ≤ 35184372088832 := by omega
  simp only [impl_ThenPerm.j0, Bool.false_eq_true, if_false, I_len', h1, h2, if_true, Int.toNat_natCast]
  have H : ∀ (d i : Nat) (c : List Nat), i + d = p.length → c.length = p.length → (∀ j, j < i → g c j = g q (g p j)) → Ev (fun k => impl_ThenPerm.l0 k (I q) (I c) (I p) (p.length : Int) (i : Int)) (I (thn p q)) := by
    intro d
    induction d with
    | zero =>
      intro i c h hc hx
      refine ev_succ ?_
      have h1 : ¬ ((i : Int) < (p.length : Int)) := by omega
      have e : thn p q = c := by
        refine (eq_tab hc (fun j hj => hx j (by omega))).symm
      simp only [impl_ThenPerm.l0, h1, if_false]
      rw [e]
      exact Ev.now _
    | succ d ih =>
      intro i c h hc hx
      refine ev_succ ?_
      have hi : i < p.length := by omega
      have gp := g_lt hp hi
      have c1 : (i : Int) < (p.length : Int) := by omega
      have c2 : (0 : Int) ≤ (i : Int) := by omega
      have c3 : (0 : Int) ≤ ((g p i : Nat) : Int) := by omega
      have c4 : ((g p i : Nat) : Int) < (q.length : Int) := by omega
      have c5 : (i : Int) < (c.length : Int) := by omega
      have h3 := w64s i (by omega)
      simp only [impl_ThenPerm.l0, c1, c2, c3, c4, c5, h3, rdI, I_len', I_set, if_true, Int.toNat_natCast]
      refine ih (i + 1) _ (by omega) (by rw [List.length_set]; exact hc) (fun j hj => ?_)
      rw [g_set (by omega)]
      by_cases e : i = j
      · subst e
        simp
      · rw [if_neg e]
        exact hx j (by omega)
  have := H p.length 0 (List.replicate p.length 0) (by omega) (by simp) (fun j hj => by omega)
  rw [I_rep] at this
  exact this
theorem spec_then2 {p q : List Nat} (hp : ∀ i, i < p.length → g p i < q.length) (h : p.length ≤ 1000) : Ev (fun k => spec_l02Then.f k (I p) (I q)) (I (thn p q)) := by
  unfold spec_l02Then.f
  have H : ∀ (d i : Nat), i + d = p.length → Ev (fun k => spec_l02Then.l0 k (I q) (I (tab i (fun i => g q (g p i)))) (I p) (p.length : Int) (i : Int)) (I (thn p q)) := by
    intro d
    induction d with
    | zero =>
      intro i h
      obtain rfl : i = p.length := by omega
      refine ev_succ ?_
      have h1 : ¬ ((p.length : Int) < (p.length : Int)) := by omega
      simp only [spec_l02Then.l0, h1, if_false]
      exact Ev.now _
    | succ d ih =>
      intro i h
      refine ev_succ ?_
      have hi : i < p.length := by omega
      have gp := hp i hi
      have c1 : (i : Int) < (p.length : Int) := by omega
      have c2 : (0 : Int) ≤ (i : Int) := by omega
      have c3 : (0 : Int) ≤ ((g p i : Nat) : Int) := by omega
      have c4 : ((g p i : Nat) : Int) < (q.length : Int) := by omega
      have c5 : (I (tab i (fun i => g q (g p i)))).length < 17592186044416 := by rw [I_len, tab_len]; omega
      have h3 := w64s i (by omega)
      have e : tab i (fun i => g q (g p i)) ++ [g q (g p i)] = tab (i + 1) (fun i => g q (g p i)) := by unfold tab; rw [List.range_succ]; simp
      simp only [spec_l02Then.l0, c1, c2, c3, c4, c5, h3, rdI, I_len', I_snoc, if_true, e]
      exact ih (i + 1) (by omega)
  simp only [I_len']
  exact H p.length 0 (by omega)
def arnd (r u : List Nat) : List Nat := thn (thn r u) (thn (inv r) (inv u))
theorem arnd_len (r u : List Nat) : (arnd r u).length = r.length := by unfold arnd; rw [thn_len, thn_len]
theorem g_arnd {r u : List Nat} (hs : Sf r u) {x : Nat} (hx : x < r.length) : g (arnd r u) x = ix u (ix r (g u (g r x))) := by
  have h1 := g_lt hs.pr hx
  have h2 := g_lt hs.pu (i := g r x) (by rw [hs.eq]; exact h1)
  have h2' : g u (g r x) < r.length := by rw [← hs.eq]; exact h2
  have h3 := ix_lt hs.pr h2'
  unfold arnd
  rw [g_thn (by rw [thn_len]; exact hx), g_thn hx, g_thn (by rw [inv_len]; exact h2'), g_inv h2', g_inv (by rw [hs.eq]; exact h3)]
theorem spec_around {r u : List Nat} (hs : Sf r u) : Ev (fun k => spec_l04Around.f k (I r) (I u)) (I (arnd r u)) := by
  have hle := hs.le
  have heq := hs.eq
  unfold spec_l04Around.f
  refine Ev.bind (spec_then2 (fun i hi => by have := g_lt hs.pr hi; omega) (by omega)) ?_
  refine Ev.bind (spec_inv hs.pr hs.le) (Ev.bind (spec_inv hs.pu (by omega)) ?_)
  refine Ev.bind (spec_then2 (fun i hi => by have := g_lt (isP_inv hs.pr) hi; rw [inv_len] at this hi ⊢; omega) (by rw [inv_len]; omega)) ?_
  refine Ev.bind (spec_then2 (fun i hi => by have := g_lt (isP_thn hs.pr hs.pu heq.symm) hi; rw [thn_len] at this hi ⊢; rw [inv_len]; omega) (by rw [thn_len]; omega)) ?_
  exact Ev.now _
theorem impl_around {r u : List Nat} (hs : Sf r u) : Ev (fun k => impl_AroundOf.f k (I r) (I u)) (I (arnd r u)) := by
  have hle := hs.le
  have heq := hs.eq
  unfold impl_AroundOf.f
  refine Ev.bind (impl_surf _ _) ?_
  rw [surfB_I.mpr hs]
  simp only [if_true]
  refine Ev.bind (impl_then hs.pr hs.pu heq.symm hs.le) ?_
  refine Ev.bind (impl_inv hs.pr hs.le) (Ev.bind (impl_inv hs.pu (by omega)) ?_)
  refine Ev.bind (impl_then (isP_inv hs.pr) (isP_inv hs.pu) (by rw [inv_len, inv_len, heq]) (by rw [inv_len]; omega)) ?_
  refine Ev.bind (impl_then (isP_thn hs.pr hs.pu heq.symm) (isP_thn (isP_inv hs.pr) (isP_inv hs.pu) (by rw [inv_len, inv_len, heq])) (by rw [thn_len, thn_len, inv_len]) (by rw [thn_len]; omega)) ?_
  exact Ev.now _
theorem first_split {α : Type} (P : α → Prop) : ∀ l : List α, (∃ c ∈ l, P c) → ∃ a c b, l = a ++ c :: b ∧ P c ∧ ∀ x ∈ a, ¬ P x := by
  intro l
  induction l with
  | nil => intro ⟨c, h, _⟩; simp at h
  | cons x l ih =>
    intro ⟨c, h, hc⟩
    by_cases hx : P x
    · exact ⟨[], x, l, rfl, hx, by simp⟩
    · obtain ⟨a, c', b, e, h1, h2⟩ := ih (by
        rcases List.mem_cons.mp h with rfl | h
        · exact absurd hc hx
        · exact ⟨c, h, hc⟩)
      refine ⟨x :: a, c', b, by rw [e]; rfl, h1, fun y hy => ?_⟩
      rcases List.mem_cons.mp hy with rfl | hy
      · exact hx
      · exact h2 y hy
theorem rdL_mid (a : List (List Nat)) (c : List Nat) (b : List (List Nat)) : rd_L1 (I2 (a ++ c :: b)) (a.length : Int) = I c := by
  unfold rd_L1 I2
  rw [Int.toNat_natCast, List.map_append, List.map_cons, ← List.length_map (f := I)]
  exact getD_mid _ _ _ _
theorem cyc_least {p : List Nat} (hp : IsP p) : ∀ i, i ≤ p.length → ∀ c ∈ cyc p i, ∃ s, s < i ∧ c = orb p s ∧ ∀ y ∈ c, s ≤ y := by
  intro i
  induction i with
  | zero => intro _ c h; simp [cyc] at h
  | succ i ih =>
    intro hi c hc
    by_cases h : ∃ c ∈ cyc p i, i ∈ c
    · rw [cyc_succ_old h] at hc
      obtain ⟨s, h1, h2, h3⟩ := ih (by omega) c hc
      exact ⟨s, by omega, h2, h3⟩
    · rw [cyc_succ_new h] at hc
      rcases List.mem_append.mp hc with hc | hc
      · obtain ⟨s, h1, h2, h3⟩ := ih (by omega) c hc
        exact ⟨s, by omega, h2, h3⟩
      · have e : c = orb p i := by simpa using hc
        subst e
        refine ⟨i, by omega, rfl, fun y hy => ?_⟩
        apply Classical.byContradiction
        intro hlt
        obtain ⟨c', hc', hm⟩ := cyc_all hp i (by omega) y (by omega)
        exact cyc_new hp (by omega) h hy ⟨c', hc', hm⟩
theorem orb_cons (p : List Nat) (s : Nat) : ∃ t, orb p s = s :: t := by
  have h := per_pos p s
  unfold orb orbTo
  obtain ⟨m, hm⟩ : ∃ m, per p s = m + 1 := ⟨per p s - 1, by omega⟩
  rw [hm, List.range_succ_eq_map]
  exact ⟨_, rfl⟩
theorem cycle_form {p : List Nat} (hp : IsP p) {c : List Nat} (hc : c ∈ cycles p) : ∃ s t, s < p.length ∧ c = s :: t ∧ c = orb p s ∧ ∀ y ∈ c, s ≤ y := by
  obtain ⟨s, h1, h2, h3⟩ := cyc_least hp p.length (Nat.le_refl _) c hc
  obtain ⟨t, ht⟩ := orb_cons p s
  exact ⟨s, t, h1, by rw [h2, ht], h2, h3⟩
theorem cycle_same {p : List Nat} (hp : IsP p) {c : List Nat} (hc : c ∈ cycles p) {x y : Nat} (hx : x < p.length) (hy : y ∈ orb p x) : x ∈ c ↔ y ∈ c := by
  obtain ⟨s, _, hs, _, e, _⟩ := cycle_form hp hc
  rw [e]
  constructor
  · intro h
    exact orb_trans hp hs h hy
  · intro h
    exact orb_trans hp hs h (orb_sym hp hx hy)
theorem has_nat (l : List Nat) (a : Nat) (hl : l.length ≤ 1000000000) : Ev (fun k => spec_l02Has.f k (I l) (a : Int)) (decide (a ∈ l)) := by
  have := has_ev (I l) (a : Int) (by rw [I_len]; exact hl)
  have e : decide ((a : Int) ∈ I l) = decide (a ∈ l) := by
    rw [Bool.eq_iff_iff, decide_eq_true_iff, decide_eq_true_iff]
    exact mem_I
  rw [e] at this
  exact this
end Go.Proofs.Ytbdnellgioimbaa.M
end
section
/- Slopes and paths: the program and the reference answer alike. No conditions. -/
namespace Go.Proofs.Ytbdnellgioimbaa.M
set_option linter.unusedVariables false
set_option linter.unusedSimpArgs false
open Go.RowKit Go.Proofs.YtbdnellgioimbaaW.PrintWords Go.Proofs.YtbdnellgioimbaaW.PrintLast Go.Proofs.YtbdnellgioimbaaW.PrintMore Go.Proofs.Ytbdnellgioimbaa.A
def slopeOkI (p q : Int) : Bool := (impl_SlopeOk.f 60 p q).getD false
theorem slope_tab : ∀ a : Fin 13, ∀ b : Fin 13, spec_SlopeOk.f 60 (a.val : Int) (b.val : Int) = some (slopeOkI (a.val : Int) (b.val : Int)) ∧ impl_SlopeOk.f 60 (a.val : Int) (b.val : Int) = some (slopeOkI (a.val : Int) (b.val : Int)) := by decide +kernel
theorem slope_out {p q : Int} (h : ¬ ((0 ≤ p ∧ p ≤ 12) ∧ (0 ≤ q ∧ q ≤ 12))) (k : Nat) : spec_SlopeOk.f k p q = some false ∧ impl_SlopeOk.f k p q = some false := by
  unfold spec_SlopeOk.f impl_SlopeOk.f spec_l01In.f
  by_cases h1 : 0 ≤ p
  · by_cases h2 : p ≤ 12
    · by_cases h3 : 0 ≤ q
      · have h4 : ¬ q ≤ 12 := by omega
        simp [h1, h2, h3, h4]
      · simp [h1, h2, h3]
    · by_cases h3 : 0 ≤ q <;> simp [h1, h2, h3]
  · simp [h1]
theorem slope_false {p q : Int} (h : ¬ ((0 ≤ p ∧ p ≤ 12) ∧ (0 ≤ q ∧ q ≤ 12))) : slopeOkI p q = false := by
  unfold slopeOkI
  rw [(slope_out h 60).2]
  rfl
theorem slopes_ev (p q : Int) : Ev (fun k => spec_SlopeOk.f k p q) (slopeOkI p q) ∧ Ev (fun k => impl_SlopeOk.f k p q) (slopeOkI p q) := by
  by_cases h : (0 ≤ p ∧ p ≤ 12) ∧ (0 ≤ q ∧ q ≤ 12)
  · obtain ⟨⟨h1, h2⟩, h3, h4⟩ := h
    obtain ⟨a, rfl⟩ : ∃ a : Nat, p = a := ⟨p.toNat, by omega⟩
    obtain ⟨b, rfl⟩ : ∃ b : Nat, q = b := ⟨q.toNat, by omega⟩
    have := slope_tab ⟨a, by omega⟩ ⟨b, by omega⟩
    exact ⟨Ev.of (fun k => spec_SlopeOk.mono _ _ k) this.1, Ev.of (fun k => impl_SlopeOk.mono _ _ k) this.2⟩
  · rw [slope_false h]
    exact ⟨⟨0, fun k _ => (slope_out h k).1⟩, ⟨0, fun k _ => (slope_out h k).2⟩⟩
theorem slope_in {p q : Int} (h : slopeOkI p q = true) : (0 ≤ p ∧ p ≤ 12) ∧ (0 ≤ q ∧ q ≤ 12) := by
  apply Classical.byContradiction
  intro k
  rw [slope_false k] at h
  cases h
theorem tab_snoc (i : Nat) (f : Nat → Nat) : tab i f ++ [f i] = tab (i + 1) f := by unfold tab; rw [List.range_succ]; simp
theorem spec_then {p q : List Nat} (hp : ∀ i, i < p.length → g p i < q.length) (h : p.length ≤ 1000) : Ev (fun k => spec_l02Then.f k (I p) (I q)) (I (thn p q)) := by
  unfold spec_l02Then.f
  have H : ∀ d i : Nat, i + d = p.length → Ev (fun k => spec_l02Then.l0 k (I q) (I (tab i (fun i => g q (g p i)))) (I p) (p.length : Int) (i : Int)) (I (thn p q)) := by
    intro d
    induction d with
    | zero =>
      intro i h
      obtain rfl : i = p.length := by omega
      refine ev_succ ?_
      have h1 : ¬ ((p.length : Int) < (p.length : Int)) := by omega
      simp only [spec_l02Then.l0, h1, if_false]
      exact Ev.now _
    | succ d ih =>
      intro i h
      have hi : i < p.length := by omega
      have hg := hp i hi
      refine ev_succ ?_
      have h1 : (i : Int) < (p.length : Int) := by omega
      have h2 := w64s i (by omega)
      have h3 : (I (tab i (fun i => g q (g p i)))).length < 17592186044416 := by rw [I_len, tab_len]; omega
      have h4 : (0 : Int) ≤ (i : Int) := by omega
      have h5 : (0 : Int) ≤ ((g p i : Nat) : Int) := by omega
      have h6 : ((g p i : Nat) : Int) < (q.length : Int) := by omega
      have e := tab_snoc i (fun i => g q (g p i))
      simp only [spec_l02Then.l0, h1, h2, h3, h4, h5, h6, rdI, I_len', if_true, I_snoc, e]
      exact ih (i + 1) (by omega)
  have := H p.length 0 (by omega)
  simp only [I_len']
  exact this
end Go.Proofs.Ytbdnellgioimbaa.M
end
section
/- Words of letters: the program and the reference act alike. No conditions. -/
namespace Go.Proofs.Ytbdnellgioimbaa.M
set_option linter.unusedVariables false
set_option linter.unusedSimpArgs false
open Go.RowKit Go.Proofs.YtbdnellgioimbaaW.PrintWords Go.Proofs.YtbdnellgioimbaaW.PrintLast Go.Proofs.YtbdnellgioimbaaW.PrintMore Go.Proofs.Ytbdnellgioimbaa.A
def lt (c : Int) (s : List Nat × List Nat) : List Nat × List Nat := if c = 84 then (s.1, thn (inv s.1) s.2) else if c = 116 then (s.1, thn s.1 s.2) else if c = 83 then (inv s.2, s.1) else (s.2, inv s.1)
theorem sf_lt {s : List Nat × List Nat} (hs : Sf s.1 s.2) (c : Int) : Sf (lt c s).1 (lt c s).2 ∧ (lt c s).1.length = s.1.length := by
  unfold lt
  split
  · exact ⟨sf_T hs, rfl⟩
  · split
    · exact ⟨sf_t hs, rfl⟩
    · split
      · exact ⟨sf_S hs, by show (inv s.2).length = _; rw [inv_len, hs.eq]⟩
      · exact ⟨sf_s hs, hs.eq⟩
def rn (w : ByteArray) (s : List Nat × List Nat) : Nat → List Nat × List Nat
  | 0 => s
  | j + 1 => lt (bt w (j : Int)) (rn w s j)
theorem sf_rn {s : List Nat × List Nat} (hs : Sf s.1 s.2) (w : ByteArray) (j : Nat) : Sf (rn w s j).1 (rn w s j).2 ∧ (rn w s j).1.length = s.1.length := by
  induction j with
  | zero => exact ⟨hs, rfl⟩
  | succ j ih =>
    have := sf_lt ih.1 (bt w (j : Int))
    exact ⟨this.1, this.2.trans ih.2⟩
theorem thn_small {r u : List Nat} (hs : Sf r u) : (∀ i, i < (inv r).length → g (inv r) i < u.length) ∧ (∀ i, i < r.length → g r i < u.length) := by
  constructor
  · intro i hi
    have := g_lt (isP_inv hs.pr) hi
    rw [inv_len] at this
    rw [hs.eq]
    exact this
  · intro i hi
    rw [hs.eq]
    exact g_lt hs.pr hi
theorem spec_letter {s : List Nat × List Nat} (hs : Sf s.1 s.2) (c : Int) : Ev (fun k => spec_l05Letter.f k (I s.1) (I s.2) c) (I (lt c s).1, I (lt c s).2) := by
  have hle := hs.le
  have heq := hs.eq
  have c1 : ([] : List Int).length + (I s.1).length < 17592186044416 := by rw [I_len]; simp; omega
  have c2 : ([] : List Int).length + (I s.2).length < 17592186044416 := by rw [I_len]; simp; omega
  obtain ⟨t1, t2⟩ := thn_small hs
  unfold spec_l05Letter.f lt
  by_cases h1 : c = 84
  · simp only [h1, if_true]
    refine Ev.bind (a := (I s.1, I (thn (inv s.1) s.2))) ?_ (Ev.now _)
    unfold spec_l05Shear.f
    simp only [Option.bind_some, c1, if_true, List.nil_append]
    exact Ev.bind (spec_inv hs.pr hs.le) (Ev.bind (spec_then t1 (by rw [inv_len]; omega)) (Ev.now _))
  · by_cases h2 : c = 116
    · have n1 : ¬ ((116 : Int) = 84) := by omega
      simp only [h2, n1, if_true, if_false]
      refine Ev.bind (a := (I s.1, I (thn s.1 s.2))) ?_ (Ev.now _)
      unfold spec_l05Unshear.f
      simp only [Option.bind_some, c1, if_true, List.nil_append]
      exact Ev.bind (spec_then t2 (by omega)) (Ev.now _)
    · by_cases h3 : c = 83
      · have n1 : ¬ ((83 : Int) = 84) := by omega
        have n2 : ¬ ((83 : Int) = 116) := by omega
        simp only [h3, n1, n2, if_true, if_false]
        refine Ev.bind (a := (I (inv s.2), I s.1)) ?_ (Ev.now _)
        unfold spec_l05Turn.f
        refine Ev.bind (spec_inv hs.pu (by omega)) ?_
        simp only [Option.bind_some, c1, if_true, List.nil_append]
        exact Ev.now _
      · simp only [h1, h2, h3, if_false]
        refine Ev.bind (a := (I s.2, I (inv s.1))) ?_ (Ev.now _)
        unfold spec_l05Unturn.f
        simp only [Option.bind_some, c2, if_true, List.nil_append]
        exact Ev.bind (spec_inv hs.pr hs.le) (Ev.now _)
theorem spec_run {s : List Nat × List Nat} (hs : Sf s.1 s.2) (w : ByteArray) (hw : w.size ≤ 1000) : Ev (fun k => spec_l05Run.f k (I s.1) (I s.2) w) (I (rn w s w.size).1, I (rn w s w.size).2) := by
  have hle := hs.le
  have heq := hs.eq
  have c1 : ([] : List Int).length + (I s.1).length < 17592186044416 := by rw [I_len]; simp; omega
  have c2 : ([] : List Int).length + (I s.2).length < 17592186044416 := by rw [I_len]; simp; omega
  unfold spec_l05Run.f
  simp only [Option.bind_some, c1, c2, if_true, List.nil_append]
  have H : ∀ d j : Nat, j + d = w.size → Ev (fun k => spec_l05Run.l0 k w (j : Int) (I (rn w s j).1) (I (rn w s j).2)) (I (rn w s w.size).1, I (rn w s w.size).2) := by
    intro d
    induction d with
    | zero =>
      intro j hj
      obtain rfl : j = w.size := by omega
      refine ev_succ ?_
      have c1 : ¬ ((w.size : Int) < (w.size : Int)) := by omega
      simp only [spec_l05Run.l0, c1, if_false]
      exact Ev.now _
    | succ d ih =>
      intro j hj
      refine ev_succ ?_
      have c1 : (j : Int) < (w.size : Int) := by omega
      have c2 : (0 : Int) ≤ (j : Int) := by omega
      have c3 := w64s j (by omega)
      simp only [spec_l05Run.l0, c1, c2, c3, if_true]
      exact Ev.bind (spec_letter (sf_rn hs w j).1 _) (ih (j + 1) (by omega))
  exact H w.size 0 (Nat.zero_add _)
def letB (c : Int) : Bool := decide (c = 84 ∨ c = 116 ∨ c = 83 ∨ c = 115)
theorem idx_tab : ∀ n : Fin 256, decide (Lib.indexByte [84, 116, 83, 115] n.val.toUInt8 < 0) = !letB (n.val : Int) := by decide +kernel
theorem idx_ev {c : Int} (h0 : 0 ≤ c) (h1 : c ≤ 255) : ∃ i, strings_IndexByte.f (⟨#[84, 116, 83, 115]⟩ : ByteArray) c = some i ∧ decide (i < 0) = !letB c := by
  obtain ⟨n, rfl⟩ : ∃ n : Nat, c = n := ⟨c.toNat, by omega⟩
  refine ⟨_, rfl, ?_⟩
  exact idx_tab ⟨n, by omega⟩
def wordB (w : ByteArray) : Bool := decide ((∀ j, j < w.size → letB (bt w (j : Int)) = true) ∧ w.size ≤ 40)
theorem impl_wordOk (w : ByteArray) (hw : w.size ≤ 9000000000000000000) : Ev (fun k => impl_WordOk.f k w) (wordB w) := by
  unfold impl_WordOk.f
  have H : ∀ d j : Nat, j + d = w.size → (∀ i, i < j → letB (bt w (i : Int)) = true) → Ev (fun k => impl_WordOk.l0 k w (j : Int)) (wordB w) := by
    intro d
    induction d with
    | zero =>
      intro j hj hl
      obtain rfl : j = w.size := by omega
      refine ev_succ ?_
      have c1 : ¬ ((w.size : Int) < (w.size : Int)) := by omega
      have e : decide ((w.size : Int) ≤ 40) = wordB w := by
        unfold wordB
        rw [decide_eq_decide]
        constructor
        · intro h
          exact ⟨hl, by omega⟩
        · intro h
          have := h.2
          omega
      simp only [impl_WordOk.l0, c1, if_false, e]
      exact Ev.now _
    | succ d ih =>
      intro j hj hl
      obtain ⟨b0, b1⟩ := bt_range w (j : Int)
      obtain ⟨i, e, hi⟩ := idx_ev b0 b1
      refine ev_succ ?_
      have c1 : (j : Int) < (w.size : Int) := by omega
      have c2 : (0 : Int) ≤ (j : Int) := by omega
      have c3 := w64s j (by omega)
      simp only [impl_WordOk.l0, c1, c2, c3, e, if_true, Option.bind_some]
      by_cases hb : letB (bt w (j : Int)) = true
      · have c4 : ¬ i < 0 := by
          rw [hb] at hi
          exact of_decide_eq_false hi
        simp only [c4, if_false]
        exact ih (j + 1) (by omega) (fun q hq => by
          by_cases e : q = j
          · rw [e]; exact hb
          · exact hl q (by omega))
      · have hb' := Bool.eq_false_iff.mpr hb
        have c4 : i < 0 := by
          rw [hb'] at hi
          exact of_decide_eq_true hi
        have e2 : wordB w = false := by
          unfold wordB
          rw [decide_eq_false_iff_not]
          intro h
          exact hb (h.1 j (by omega))
        simp only [c4, if_true, e2]
        exact Ev.now _
  exact H w.size 0 (Nat.zero_add _) (fun i hi => by omega)
theorem copy_ev (l : List Int) (h : l.length ≤ 1000000) : impl_copyInts.f l = some l := by
  unfold impl_copyInts.f
  have c1 : ([] : List Int).length + l.length < 17592186044416 := by simp; omega
  simp only [Option.bind_some, c1, if_true, List.nil_append]
theorem impl_letter {s : List Nat × List Nat} (hs : Sf s.1 s.2) (c : Int) (hc : letB c = true) : Ev (fun k => impl_letterSurface.f k (I s.1) (I s.2) c) (I (lt c s).1, I (lt c s).2) := by
  have hle := hs.le
  have heq := hs.eq
  have h0 := surfB_I.mpr hs
  have k1 := copy_ev (I s.1) (by rw [I_len]; omega)
  have k2 := copy_ev (I s.2) (by rw [I_len]; omega)
  have hc := of_decide_eq_true hc
  unfold impl_letterSurface.f lt
  by_cases h1 : c = 84
  · simp only [h1, if_true]
    refine Ev.bind (a := (I s.1, I (thn (inv s.1) s.2), true)) ?_ (Ev.now _)
    unfold impl_ShearSurface.f
    refine Ev.bind (impl_surf _ _) ?_
    simp only [h0, k1, if_true, Option.bind_some]
    exact Ev.bind (impl_inv hs.pr hs.le) (Ev.bind (impl_then (isP_inv hs.pr) hs.pu (by rw [inv_len, hs.eq]) (by rw [inv_len]; exact hs.le)) (Ev.now _))
  · by_cases h2 : c = 116
    · have n1 : ¬ ((116 : Int) = 84) := by omega
      simp only [h2, n1, if_true, if_false]
      refine Ev.bind (a := (I s.1, I (thn s.1 s.2), true)) ?_ (Ev.now _)
      unfold impl_UnshearSurface.f
      refine Ev.bind (impl_surf _ _) ?_
      simp only [h0, k1, if_true, Option.bind_some]
      exact Ev.bind (impl_then hs.pr hs.pu hs.eq.symm hs.le) (Ev.now _)
    · by_cases h3 : c = 83
      · have n1 : ¬ ((83 : Int) = 84) := by omega
        have n2 : ¬ ((83 : Int) = 116) := by omega
        simp only [h3, n1, n2, if_true, if_false]
        refine Ev.bind (a := (I (inv s.2), I s.1, true)) ?_ (Ev.now _)
        unfold impl_TurnSurface.f
        refine Ev.bind (impl_surf _ _) ?_
        simp only [h0, if_true]
        refine Ev.bind (impl_inv hs.pu (by omega)) ?_
        simp only [k1, Option.bind_some]
        exact Ev.now _
      · have h4 : c = 115 := by omega
        have n1 : ¬ ((115 : Int) = 84) := by omega
        have n2 : ¬ ((115 : Int) = 116) := by omega
        have n3 : ¬ ((115 : Int) = 83) := by omega
        simp only [h4, n1, n2, n3, if_true, if_false]
        refine Ev.bind (a := (I s.2, I (inv s.1), true)) ?_ (Ev.now _)
        unfold impl_UnturnSurface.f
        refine Ev.bind (impl_surf _ _) ?_
        simp only [h0, k2, if_true, Option.bind_some]
        exact Ev.bind (impl_inv hs.pr hs.le) (Ev.now _)
def runP (r u : List Int) (w : ByteArray) : List Int × List Int × Bool := if surfB r u = true ∧ wordB w = true then (I (rn w (N r, N u) w.size).1, I (rn w (N r, N u) w.size).2, true) else ([], [], false)
theorem runP_yes {s : List Nat × List Nat} (hs : Sf s.1 s.2) {w : ByteArray} (hw : wordB w = true) : runP (I s.1) (I s.2) w = (I (rn w s w.size).1, I (rn w s w.size).2, true) := by
  unfold runP
  rw [if_pos ⟨surfB_I.mpr hs, hw⟩, N_I, N_I]
theorem impl_run (r u : List Int) (w : ByteArray) (hw : w.size ≤ 9000000000000000000) : Ev (fun k => impl_RunWord.f k r u w) (runP r u w) := by
  unfold impl_RunWord.f
  refine Ev.bind (impl_surf _ _) ?_
  by_cases h : surfB r u = true
  · simp only [h, if_true]
    refine Ev.bind (impl_wordOk w hw) ?_
    by_cases h2 : wordB w = true
    · obtain ⟨r, u, rfl, rfl, hs⟩ := surf_nat h
      rw [runP_yes (s := (r, u)) hs h2, h2]
      have hd := of_decide_eq_true h2
      have hle := hs.le
      have heq := hs.eq
      have k1 := copy_ev (I r) (by rw [I_len]; omega)
      have k2 := copy_ev (I u) (by rw [I_len]; omega)
      refine ev_succ ?_
      simp only [impl_RunWord.j0, impl_copySurface.f, k1, k2, Option.bind_some, Bool.not_true, Bool.false_eq_true, if_false]
      have H : ∀ d j : Nat, j + d = w.size → Ev (fun k => impl_RunWord.l0 k w (j : Int) (I (rn w (r, u) j).1) (I (rn w (r, u) j).2)) (I (rn w (r, u) w.size).1, I (rn w (r, u) w.size).2, true) := by
        intro d
        induction d with
        | zero =>
          intro j hj
          obtain rfl : j = w.size := by omega
          refine ev_succ ?_
          have c1 : ¬ ((w.size : Int) < (w.size : Int)) := by omega
          simp only [impl_RunWord.l0, c1, if_false]
          exact Ev.now _
        | succ d ih =>
          intro j hj
          refine ev_succ ?_
          have c1 : (j : Int) < (w.size : Int) := by omega
          have c2 : (0 : Int) ≤ (j : Int) := by omega
          have c3 := w64s j (by omega)
          simp only [impl_RunWord.l0, c1, c2, c3, if_true]
          exact Ev.bind (impl_letter (sf_rn (s := (r, u)) hs w j).1 _ (hd.1 j (by omega))) (ih (j + 1) (by omega))
      exact H w.size 0 (Nat.zero_add _)
    · have h2' := Bool.eq_false_iff.mpr h2
      have e : runP r u w = ([], [], false) := by
        unfold runP
        rw [if_neg (fun h => h2 h.2)]
      rw [e, h2']
      refine ev_succ ?_
      simp only [impl_RunWord.j0, Bool.not_false, if_true]
      exact Ev.now _
  · have e : runP r u w = ([], [], false) := by
      unfold runP
      rw [if_neg (fun k => h k.1)]
    have h' := Bool.eq_false_iff.mpr h
    simp only [h', Bool.false_eq_true, if_false]
    rw [e]
    refine ev_succ ?_
    simp only [impl_RunWord.j0, if_true]
    exact Ev.now _
end Go.Proofs.Ytbdnellgioimbaa.M
end
section
/- The row above: lookups of the program and the reference. No conditions. -/
namespace Go.Proofs.Ytbdnellgioimbaa.M
set_option linter.unusedVariables false
set_option linter.unusedSimpArgs false
open Go.RowKit Go.Proofs.YtbdnellgioimbaaW.PrintWords Go.Proofs.YtbdnellgioimbaaW.PrintLast Go.Proofs.YtbdnellgioimbaaW.PrintMore Go.Proofs.Ytbdnellgioimbaa.A
theorem index_ev (l : List Nat) (a : Nat) (hl : l.length ≤ 1000000000) : ∃ i : Int, Ev (fun k => slices_Index_int_int.f k (I l) (a : Int)) i ∧ (decide (i ≥ 0) = decide (a ∈ l)) := by
  unfold slices_Index_int_int.f
  have H : ∀ d i : Nat, i + d = l.length → a ∉ l.take i → ∃ j : Int, Ev (fun k => slices_Index_int_int.l0 k (I l) (a : Int) (l.length : Int) (i : Int)) j ∧ (decide (j ≥ 0) = decide (a ∈ l)) := by
    intro d
    induction d with
    | zero =>
      intro i h hn
      refine ⟨-1, ev_succ ?_, ?_⟩
      · have h1 : ¬ ((i : Int) < (l.length : Int)) := by omega
        simp only [slices_Index_int_int.l0, h1, if_false]
        exact Ev.now _
      · rw [List.take_of_length_le (by omega)] at hn
        simp [hn]
    | succ d ih =>
      intro i h hn
      have hi : i < l.length := by omega
      have c1 : (i : Int) < (l.length : Int) := by omega
      have c2 : (0 : Int) ≤ (i : Int) := by omega
      have h3 := w64s i (by omega)
      by_cases e : a = g l i
      · refine ⟨(i : Int), ev_succ ?_, ?_⟩
        · have e' : ((a : Nat) : Int) = ((g l i : Nat) : Int) := by rw [← e]
          simp only [slices_Index_int_int.l0, c1, c2, rdI, I_len', e', if_true]
          exact Ev.now _
        · have : a ∈ l := by rw [e]; exact g_mem hi
          simp [this]
      · obtain ⟨j, j1, j2⟩ := ih (i + 1) (by omega) (by
          rw [← List.take_append_getElem hi]
          intro hm
          rcases List.mem_append.mp hm with hm | hm
          · exact hn hm
          · rw [← g_get hi] at hm
            exact e (by simpa using hm))
        refine ⟨j, ev_succ ?_, j2⟩
        have e' : ¬ ((a : Nat) : Int) = ((g l i : Nat) : Int) := by omega
        simp only [slices_Index_int_int.l0, c1, c2, rdI, I_len', e', if_true, if_false, h3]
        exact j1
  have := H l.length 0 (by omega) (by simp)
  simp only [I_len']
  exact this
theorem contains_ev (l : List Nat) (a : Nat) (hl : l.length ≤ 1000000000) : Ev (fun k => slices_Contains_int_int.f k (I l) (a : Int)) (decide (a ∈ l)) := by
  unfold slices_Contains_int_int.f
  obtain ⟨i, h1, h2⟩ := index_ev l a hl
  refine Ev.bind h1 ?_
  rw [h2]
  exact Ev.now _
theorem min_ev (s : Nat) (t : List Nat) (h : ∀ y ∈ t, s ≤ y) (hl : t.length ≤ 1000000000) : Ev (fun k => slices_Min_int_int.f k (I (s :: t))) (s : Int) := by
  unfold slices_Min_int_int.f
  have h0 : ¬ (((I (s :: t)).length : Int) < 1) := by rw [I_len]; simp; omega
  simp only [h0, if_false]
  have e0 : rd (I (s :: t)) 0 = (s : Int) := rfl
  rw [e0]
  have H : ∀ d i : Nat, i + d = (s :: t).length → 1 ≤ i → Ev (fun k => slices_Min_int_int.l0 k (I (s :: t)) (s : Int) (i : Int)) (s : Int) := by
    intro d
    induction d with
    | zero =>
      intro i hi h1
      refine ev_succ ?_
      have h2 : ¬ ((i : Int) < ((s :: t).length : Int)) := by omega
      simp only [slices_Min_int_int.l0, I_len', h2, if_false]
      exact Ev.now _
    | succ d ih =>
      intro i hi h1
      refine ev_succ ?_
      have hi' : i < (s :: t).length := by omega
      have h2 : (i : Int) < ((s :: t).length : Int) := by omega
      have h3 : (0 : Int) ≤ (i : Int) := by omega
      have h4 := w64s i (by simp at hi; omega)
      have h5 : s ≤ g (s :: t) i := by
        have hm := g_mem hi'
        rcases List.mem_cons.mp hm with e | hm
        · rw [e]
          exact Nat.le_refl _
        · exact h _ hm
      have h6 : mn (s : Int) ((g (s :: t) i : Nat) : Int) = (s : Int) := by unfold mn; split <;> omega
      simp only [slices_Min_int_int.l0, I_len', h2, h3, rdI, h4, h6, if_true]
      exact ih (i + 1) (by omega) (by omega)
  exact H t.length 1 (by simp; omega) (Nat.le_refl _)
theorem rowOf_ev {r : List Nat} (hr : IsP r) (h24 : r.length ≤ 24) (u : List Int) {x : Nat} {a : List (List Nat)} {c : List Nat} {b : List (List Nat)} (e : cycles r = a ++ c :: b) (hc : x ∈ c) (ha : ∀ d ∈ a, x ∉ d) : Ev (fun k => impl_rowOf.f k (I r) u (x : Int)) (I c) := by
  unfold impl_rowOf.f
  refine Ev.bind (impl_cycles hr h24) ?_
  have hlen := cycles_len (p := r) h24
  have H : ∀ (a1 a0 : List (List Nat)), a = a0 ++ a1 → Ev (fun k => impl_rowOf.l0 k (x : Int) (I2 (cycles r)) ((I2 (cycles r)).length : Int) (a0.length : Int)) (I c) := by
    intro a1
    induction a1 with
    | nil =>
      intro a0 ea
      have ea' : a = a0 := by simpa using ea
      subst ea'
      refine ev_succ ?_
      have hl : a.length < (cycles r).length := by rw [e]; simp
      have c1 : (a.length : Int) < ((I2 (cycles r)).length : Int) := by rw [I2_len]; omega
      have c2 : (0 : Int) ≤ (a.length : Int) := by omega
      have e1 : rd_L1 (I2 (cycles r)) (a.length : Int) = I c := by rw [e]; exact rdL_mid a c b
      simp only [impl_rowOf.l0, c1, c2, e1, if_true]
      refine Ev.bind (contains_ev c x (by have := cycle_len hr h24 c (by rw [e]; simp); omega)) ?_
      simp only [hc, decide_true, if_true]
      exact Ev.now _
    | cons d a1 ih =>
      intro a0 ea
      refine ev_succ ?_
      have e2 : cycles r = a0 ++ d :: (a1 ++ c :: b) := by rw [e, ea]; simp
      have hl : a0.length < (cycles r).length := by rw [e2]; simp
      have c1 : (a0.length : Int) < ((I2 (cycles r)).length : Int) := by rw [I2_len]; omega
      have c2 : (0 : Int) ≤ (a0.length : Int) := by omega
      have e1 : rd_L1 (I2 (cycles r)) (a0.length : Int) = I d := by rw [e2]; exact rdL_mid a0 d _
      have hn := ha d (by rw [ea]; simp)
      have h4 := w64s a0.length (by omega)
      simp only [impl_rowOf.l0, c1, c2, e1, if_true]
      refine Ev.bind (contains_ev d x (by have := cycle_len hr h24 d (by rw [e2]; simp); omega)) ?_
      simp only [hn, decide_false, Bool.false_eq_true, if_false, h4]
      have := ih (a0 ++ [d]) (by rw [ea]; simp)
      have e3 : ((a0 ++ [d]).length : Int) = ((a0.length + 1 : Nat) : Int) := by simp
      rw [e3] at this
      exact this
  exact H a [] rfl
theorem row_ev {l : List (List Nat)} (hl : l.length ≤ 1000) (hc1 : ∀ c ∈ l, c.length ≤ 1000) {x : Nat} {a : List (List Nat)} {c : List Nat} {b : List (List Nat)} (e : l = a ++ c :: b) (hc : x ∈ c) (ha : ∀ d ∈ a, x ∉ d) : Ev (fun k => spec_l08Row.f k (I2 l) (x : Int)) (a.length : Int) := by
  unfold spec_l08Row.f
  have H : ∀ (a1 a0 : List (List Nat)), a = a0 ++ a1 → Ev (fun k => spec_l08Row.l0 k (x : Int) (I2 l) ((I2 l).length : Int) (a0.length : Int)) (a.length : Int) := by
    intro a1
    induction a1 with
    | nil =>
      intro a0 ea
      have ea' : a = a0 := by simpa using ea
      subst ea'
      refine ev_succ ?_
      have hl : a.length < l.length := by rw [e]; simp
      have c1 : (a.length : Int) < ((I2 l).length : Int) := by rw [I2_len]; omega
      have c2 : (0 : Int) ≤ (a.length : Int) := by omega
      have e1 : rd_L1 (I2 l) (a.length : Int) = I c := by rw [e]; exact rdL_mid a c b
      simp only [spec_l08Row.l0, c1, c2, e1, if_true]
      refine Ev.bind (has_nat c x (by have := hc1 c (by rw [e]; simp); omega)) ?_
      simp only [hc, decide_true, if_true]
      exact Ev.now _
    | cons d a1 ih =>
      intro a0 ea
      refine ev_succ ?_
      have e2 : l = a0 ++ d :: (a1 ++ c :: b) := by rw [e, ea]; simp
      have hl : a0.length < l.length := by rw [e2]; simp
      have c1 : (a0.length : Int) < ((I2 l).length : Int) := by rw [I2_len]; omega
      have c2 : (0 : Int) ≤ (a0.length : Int) := by omega
      have e1 : rd_L1 (I2 l) (a0.length : Int) = I d := by rw [e2]; exact rdL_mid a0 d _
      have hn := ha d (by rw [ea]; simp)
      have h4 := w64s a0.length (by omega)
      simp only [spec_l08Row.l0, c1, c2, e1, if_true]
      refine Ev.bind (has_nat d x (by have := hc1 d (by rw [e2]; simp); omega)) ?_
      simp only [hn, decide_false, Bool.false_eq_true, if_false, h4]
      have := ih (a0 ++ [d]) (by rw [ea]; simp)
      have e3 : ((a0 ++ [d]).length : Int) = ((a0.length + 1 : Nat) : Int) := by simp
      rw [e3] at this
      exact this
  exact H a [] rfl
def rowIx (l : List (List Nat)) (x : Nat) : Nat := l.findIdx (fun c => decide (x ∈ c))
theorem rowIx_eq {l : List (List Nat)} {x : Nat} {a : List (List Nat)} {c : List Nat} {b : List (List Nat)} (e : l = a ++ c :: b) (hc : x ∈ c) (ha : ∀ d ∈ a, x ∉ d) : rowIx l x = a.length := by
  unfold rowIx
  rw [e, List.findIdx_append]
  have h1 : a.findIdx (fun c => decide (x ∈ c)) = a.length := by
    rw [List.findIdx_eq_length]
    intro d hd
    simp [ha d hd]
  rw [h1]
  simp [List.findIdx_cons, hc]
theorem row_at {r : List Nat} (hr : IsP r) {x : Nat} (hx : x < r.length) : ∃ a c b, cycles r = a ++ c :: b ∧ x ∈ c ∧ ∀ d ∈ a, x ∉ d :=
  first_split (fun c => x ∈ c) (cycles r) (cyc_all hr r.length (Nat.le_refl _) x hx)
def regB (r u c : List Nat) : Bool := c.all (fun x => g (arnd r u) x == x)
def abv (r u c : List Nat) : Int := if regB r u c = true then (rowIx (cycles r) (g u (c.headD 0)) : Int) else -1
theorem reg_step {r u : List Nat} (hs : Sf r u) {x : Nat} (hx : x < r.length) (h : g (arnd r u) x = x) : g u (g r x) = g r (g u x) := by
  rw [g_arnd hs hx] at h
  have h1 := g_lt hs.pr hx
  have h2 : g u (g r x) < r.length := by rw [← hs.eq]; exact g_lt hs.pu (by rw [hs.eq]; exact h1)
  have h3 := ix_lt hs.pr h2
  have e := g_ix hs.pu (x := ix r (g u (g r x))) (by rw [hs.eq]; exact h3)
  rw [h] at e
  rw [e, g_ix hs.pr h2]
theorem reg_up {r u : List Nat} (hs : Sf r u) {s : Nat} (h0 : s < r.length) (hreg : ∀ x ∈ orb r s, g (arnd r u) x = x) (k : Nat) : g u (itr r k s) = itr r k (g u s) := by
  induction k with
  | zero => rfl
  | succ k ih =>
    have hm : itr r k s ∈ orb r s := (mem_orb hs.pr h0).mpr ⟨k, rfl⟩
    show g u (g r (itr r k s)) = g r (itr r k (g u s))
    rw [reg_step hs (itr_lt hs.pr k h0) (hreg _ hm), ih]
theorem cycle_ix {p : List Nat} (hp : IsP p) {c0 c1 : List (List Nat)} {c : List Nat} (e : cycles p = c0 ++ c :: c1) {x : Nat} (hx : x ∈ c) : rowIx (cycles p) x = c0.length := by
  refine rowIx_eq e hx (fun d hd hxd => ?_)
  have hnd := (cyc_flat_lt hp p.length (Nat.le_refl _)).2
  have e2 : cyc p p.length = c0 ++ c :: c1 := e
  rw [e2, List.flatten_append] at hnd
  have := (List.nodup_append.mp hnd).2.2 x (mem_flat.mpr ⟨d, hd, hxd⟩) x (mem_flat.mpr ⟨c, by simp, hx⟩)
  exact this rfl
theorem regB_iff {r u c : List Nat} : regB r u c = true ↔ ∀ x ∈ c, g (arnd r u) x = x := by
  unfold regB
  simp
end Go.Proofs.Ytbdnellgioimbaa.M
end
section
/- Plain mathematics: classes of what is linked. No conditions. -/
namespace Go.Proofs.Ytbdnellgioimbaa.M
set_option linter.unusedVariables false
set_option linter.unusedSimpArgs false
inductive Cn (up : Nat → Option Nat) : Nat → Nat → Prop
  | refl (i : Nat) : Cn up i i
  | up {i j k : Nat} : up i = some j → Cn up j k → Cn up i k
  | dn {i j k : Nat} : up j = some i → Cn up j k → Cn up i k
theorem Cn.trans {up : Nat → Option Nat} {i j k : Nat} (h : Cn up i j) (h' : Cn up j k) : Cn up i k := by
  induction h with
  | refl i => exact h'
  | up e _ ih => exact .up e (ih h')
  | dn e _ ih => exact .dn e (ih h')
theorem Cn.symm {up : Nat → Option Nat} {i j : Nat} (h : Cn up i j) : Cn up j i := by
  induction h with
  | refl i => exact .refl i
  | up e _ ih => exact ih.trans (.dn e (.refl _))
  | dn e _ ih => exact ih.trans (.up e (.refl _))
theorem Cn.one {up : Nat → Option Nat} {i j : Nat} (h : up i = some j) : Cn up i j := .up h (.refl _)
theorem Cn.lt {n : Nat} {up : Nat → Option Nat} (hup : ∀ i j, up i = some j → i < n ∧ j < n) {i j : Nat} (h : Cn up i j) (hi : i < n) : j < n := by
  induction h with
  | refl i => exact hi
  | up e _ ih => exact ih (hup _ _ e).2
  | dn e _ ih => exact ih (hup _ _ e).1
theorem Cn.closed {up : Nat → Option Nat} {S : Nat → Prop} (hS : ∀ i j, up i = some j → (S i ↔ S j)) {i j : Nat} (h : Cn up i j) : S i ↔ S j := by
  induction h with
  | refl i => exact Iff.rfl
  | up e _ ih => exact (hS _ _ e).trans ih
  | dn e _ ih => exact (hS _ _ e).symm.trans ih
structure Grp (n : Nat) (up : Nat → Option Nat) (t : Nat) (G : Nat → Nat) : Prop where
  le : ∀ j, j < n → G j ≤ j
  fix : ∀ j, j < n → G (G j) = G j
  cn : ∀ j, j < n → Cn up j (G j)
  ed : ∀ i j, i < t → up i = some j → G i = G j
def mgf (G : Nat → Nat) (a b : Nat) : Nat → Nat := fun j => if G j = a ∨ G j = b then min a b else G j
theorem Grp.start (n : Nat) (up : Nat → Option Nat) : Grp n up 0 (fun j => j) := ⟨fun j _ => Nat.le_refl _, fun j _ => rfl, fun j _ => .refl _, fun i j h _ => by omega⟩
theorem Grp.skip {n t : Nat} {up : Nat → Option Nat} {G : Nat → Nat} (h : Grp n up t G) (e : up t = none) : Grp n up (t + 1) G :=
  ⟨h.le, h.fix, h.cn, fun i j hi hj => by
    by_cases e2 : i = t
    · subst e2
      rw [e] at hj
      cases hj
    · exact h.ed i j (by omega) hj⟩
theorem Grp.merge {n t k : Nat} {up : Nat → Option Nat} (hup : ∀ i j, up i = some j → i < n ∧ j < n) {G : Nat → Nat} (h : Grp n up t G) (e : up t = some k) : Grp n up (t + 1) (mgf G (G t) (G k)) := by
  obtain ⟨ht, hk⟩ := hup t k e
  have ha := h.fix t ht
  have hb := h.fix k hk
  have la := h.le t ht
  have lb := h.le k hk
  have hab : Cn up (G t) (G k) := (h.cn t ht).symm.trans ((Cn.one e).trans (h.cn k hk))
  have hm : min (G t) (G k) = G t ∨ min (G t) (G k) = G k := by omega
  refine ⟨fun j hj => ?_, fun j hj => ?_, fun j hj => ?_, fun i j hi hj => ?_⟩
  · unfold mgf
    have := h.le j hj
    split <;> omega
  · have key : ∀ c, (c = G t ∨ c = G k) → mgf G (G t) (G k) c = min (G t) (G k) := by
      intro c hc
      unfold mgf
      rw [if_pos (by rcases hc with rfl | rfl; exact .inl ha; exact .inr hb)]
    by_cases hc : G j = G t ∨ G j = G k
    · have e1 : mgf G (G t) (G k) j = min (G t) (G k) := by unfold mgf; rw [if_pos hc]
      rw [e1]
      exact key _ hm
    · have e1 : mgf G (G t) (G k) j = G j := by unfold mgf; rw [if_neg hc]
      rw [e1]
      unfold mgf
      rw [h.fix j hj, if_neg hc]
  · unfold mgf
    split
    · rename_i hc
      refine (h.cn j hj).trans ?_
      rcases hc with hc | hc <;> rcases hm with hm | hm <;> rw [hc, hm]
      · exact .refl _
      · exact hab
      · exact hab.symm
      · exact .refl _
    · exact h.cn j hj
  · by_cases e2 : i = t
    · subst e2
      rw [e] at hj
      injection hj with hj
      subst hj
      unfold mgf
      simp
    · unfold mgf
      rw [h.ed i j (by omega) hj]
theorem Grp.iff {n : Nat} {up : Nat → Option Nat} (hup : ∀ i j, up i = some j → i < n ∧ j < n) {G : Nat → Nat} (h : Grp n up n G) {i j : Nat} (hi : i < n) (hj : j < n) : G i = G j ↔ Cn up i j := by
  constructor
  · intro e
    have := (h.cn i hi).trans ((by rw [e]; exact .refl _ : Cn up (G i) (G j)).trans (h.cn j hj).symm)
    exact this
  · intro hc
    induction hc with
    | refl i => rfl
    | up e _ ih => rw [h.ed _ _ (hup _ _ e).1 e]; exact ih (hup _ _ e).2 hj
    | dn e _ ih => rw [← h.ed _ _ (hup _ _ e).1 e]; exact ih (hup _ _ e).1 hj
theorem Grp.head {n : Nat} {up : Nat → Option Nat} (hup : ∀ i j, up i = some j → i < n ∧ j < n) {G : Nat → Nat} (h : Grp n up n G) {i : Nat} (hi : i < n) : G i = i ↔ ∀ j, Cn up i j → i ≤ j := by
  constructor
  · intro e j hc
    have hj := hc.lt hup hi
    have := (h.iff hup hi hj).mpr hc
    have := h.le j hj
    omega
  · intro hc
    have := hc _ (h.cn i hi)
    have := h.le i hi
    omega
def ups (up : Nat → Option Nat) : Nat → Nat → Option Nat
  | 0, i => some i
  | m + 1, i => (up i).bind (ups up m)
theorem ups_succ (up : Nat → Option Nat) (m i : Nat) : ups up (m + 1) i = (ups up m i).bind up := by
  induction m generalizing i with
  | zero =>
    simp only [ups, Option.bind_some]
    cases h : up i <;> rfl
  | succ m ih =>
    show (up i).bind (ups up (m + 1)) = ((up i).bind (ups up m)).bind up
    cases h : up i with
    | none => rfl
    | some j => exact ih j
theorem ups_lt {n : Nat} {up : Nat → Option Nat} (hup : ∀ i j, up i = some j → i < n ∧ j < n) {m i j : Nat} (hi : i < n) (h : ups up m i = some j) : j < n := by
  cases m with
  | zero => simp [ups] at h; omega
  | succ m =>
    rw [ups_succ] at h
    obtain ⟨z, _, hz⟩ := Option.bind_eq_some_iff.mp h
    exact (hup _ _ hz).2
theorem ups_cn {up : Nat → Option Nat} {m i j : Nat} (h : ups up m i = some j) : Cn up i j := by
  induction m generalizing i with
  | zero => simp [ups] at h; subst h; exact .refl _
  | succ m ih =>
    obtain ⟨z, hz, h2⟩ := Option.bind_eq_some_iff.mp h
    exact .up hz (ih h2)
theorem ups_add (up : Nat → Option Nat) (a b i : Nat) : ups up (a + b) i = (ups up a i).bind (ups up b) := by
  induction a generalizing i with
  | zero => simp [ups]
  | succ a ih =>
    have e : a + 1 + b = (a + b) + 1 := by omega
    rw [e]
    show (up i).bind (ups up (a + b)) = ((up i).bind (ups up a)).bind (ups up b)
    cases h : up i with
    | none => rfl
    | some j => exact ih j
theorem ups_few {n : Nat} {up : Nat → Option Nat} (hup : ∀ i j, up i = some j → i < n ∧ j < n) {i j : Nat} (hi : i < n) (h : ∃ m, ups up m i = some j) : ∃ m, m < n ∧ ups up m i = some j := by
  have H : ∀ m, ups up m i = some j → ∃ m', m' ≤ m ∧ ups up m' i = some j ∧ ∀ q, q < m' → ups up q i ≠ some j := by
    intro m
    induction m using Nat.strongRecOn with
    | _ m ih =>
      intro hm
      by_cases hq : ∃ q, q < m ∧ ups up q i = some j
      · obtain ⟨q, q1, q2⟩ := hq
        obtain ⟨m', a, b, c⟩ := ih q q1 q2
        exact ⟨m', by omega, b, c⟩
      · exact ⟨m, Nat.le_refl _, hm, fun q q1 q2 => hq ⟨q, q1, q2⟩⟩
  obtain ⟨m, hm⟩ := h
  obtain ⟨m', _, h2, h3⟩ := H m hm
  refine ⟨m', ?_, h2⟩
  apply Classical.byContradiction
  intro hn
  have hpt : ∀ q, q ≤ m' → ∃ x, ups up q i = some x := by
    intro q hq
    have e : m' = q + (m' - q) := by omega
    rw [e, ups_add] at h2
    obtain ⟨z, hz, _⟩ := Option.bind_eq_some_iff.mp h2
    exact ⟨z, hz⟩
  have hne : ∀ a b, a < b → b ≤ m' → ups up a i ≠ ups up b i := by
    intro a b hab hb e
    have e1 : m' = b + (m' - b) := by omega
    rw [e1, ups_add, ← e, ← ups_add] at h2
    exact h3 (a + (m' - b)) (by omega) h2
  have hd : ((List.range (m' + 1)).map (fun q => (ups up q i).getD 0)).Nodup := by
    refine List.pairwise_map.mpr ?_
    refine List.pairwise_iff_getElem.mpr ?_
    intro a b ha hb hab
    rw [List.length_range] at ha hb
    rw [List.getElem_range, List.getElem_range]
    intro e
    obtain ⟨x, hx⟩ := hpt a (by omega)
    obtain ⟨y, hy⟩ := hpt b (by omega)
    rw [hx, hy] at e
    have e2 : x = y := e
    exact hne a b hab (by omega) (by rw [hx, hy, e2])
  have := nodup_le n _ hd (fun x hx => by
    obtain ⟨q, hq, rfl⟩ := List.mem_map.mp hx
    have := List.mem_range.mp hq
    obtain ⟨y, hy⟩ := hpt q (by omega)
    rw [hy]
    exact ups_lt hup hi hy)
  simp at this
  omega
theorem nodup_sub_len : ∀ (a b : List Nat), a.Nodup → (∀ x ∈ a, x ∈ b) → a.length ≤ b.length := by
  intro a
  induction a with
  | nil => intro b _ _; simp
  | cons x a ih =>
    intro b hn hs
    have hx := List.nodup_cons.mp hn
    have h1 := ih (b.erase x) hx.2 (fun y hy => by
      have hyx : y ≠ x := fun e => hx.1 (e ▸ hy)
      exact (List.mem_erase_of_ne hyx).mpr (hs y (by simp [hy])))
    have h2 := List.length_erase_of_mem (hs x (by simp))
    have h3 : 0 < b.length := List.length_pos_of_mem (hs x (by simp))
    simp only [List.length_cons]
    omega
theorem nodup_len_eq {a b : List Nat} (ha : a.Nodup) (hb : b.Nodup) (h : ∀ x, x ∈ a ↔ x ∈ b) : a.length = b.length :=
  Nat.le_antisymm (nodup_sub_len a b ha (fun x hx => (h x).mp hx)) (nodup_sub_len b a hb (fun x hx => (h x).mpr hx))
structure Mk (n : Nat) (up : Nat → Option Nat) (row : Nat) (S0 add : List Nat) : Prop where
  nd : add.Nodup
  lt : ∀ x ∈ add, x < n
  new : ∀ x ∈ add, x ∉ S0
  p : ∀ x ∈ add, (∃ m, ups up m row = some x) ∨ (∃ m, ups up m x = some row)
theorem Mk.cn {n : Nat} {up : Nat → Option Nat} {row : Nat} {S0 add : List Nat} (h : Mk n up row S0 add) {x : Nat} (hx : x ∈ add) : Cn up row x := by
  rcases h.p x hx with ⟨m, hm⟩ | ⟨m, hm⟩
  · exact ups_cn hm
  · exact (ups_cn hm).symm
theorem Mk.add {n : Nat} {up : Nat → Option Nat} {row : Nat} {S0 add : List Nat} (h : Mk n up row S0 add) {x : Nat} (hx : x < n) (h1 : x ∉ S0) (h2 : x ∉ add) (hp : (∃ m, ups up m row = some x) ∨ (∃ m, ups up m x = some row)) : Mk n up row S0 (add ++ [x]) := by
  refine ⟨List.nodup_append.mpr ⟨h.nd, by simp, fun a ha b hb e => ?_⟩, fun y hy => ?_, fun y hy => ?_, fun y hy => ?_⟩
  · have : b = x := by simpa using hb
    exact h2 (by rw [← this, ← e]; exact ha)
  · rcases List.mem_append.mp hy with hy | hy
    · exact h.lt y hy
    · have : y = x := by simpa using hy
      omega
  · rcases List.mem_append.mp hy with hy | hy
    · exact h.new y hy
    · have : y = x := by simpa using hy
      rw [this]
      exact h1
  · rcases List.mem_append.mp hy with hy | hy
    · exact h.p y hy
    · have : y = x := by simpa using hy
      rw [this]
      exact hp
theorem Mk.full {n : Nat} {up : Nat → Option Nat} (hup : ∀ i j, up i = some j → i < n ∧ j < n) (hinj : ∀ i i' j, up i = some j → up i' = some j → i = i') {row : Nat} {S0 add : List Nat} (h : Mk n up row S0 add) (hrow : row ∈ add)
    (hS0 : ∀ i j, up i = some j → (i ∈ S0 ↔ j ∈ S0)) (c1 : ∀ x ∈ add, ∀ y, up x = some y → y ∈ S0 ∨ y ∈ add)
    (c2 : ∀ k x, up k = some x → (x ∈ S0 ∨ x ∈ add) → (∃ m, ups up m k = some row) → (k ∈ S0 ∨ k ∈ add)) : ∀ x, x ∈ add ↔ Cn up row x := by
  have hrs : row ∉ S0 := h.new row hrow
  have chain : ∀ m x, ups up m row = some x → x ∈ add := by
    intro m
    induction m with
    | zero => intro x hx; simp [ups] at hx; rw [← hx]; exact hrow
    | succ m ih =>
      intro x hx
      rw [ups_succ] at hx
      obtain ⟨z, hz, hzx⟩ := Option.bind_eq_some_iff.mp hx
      have hza := ih z hz
      rcases c1 z hza x hzx with k | k
      · exact absurd ((hS0 z x hzx).mpr k) (h.new z hza)
      · exact k
  have closed : ∀ i j, up i = some j → ((i ∈ S0 ∨ i ∈ add) ↔ (j ∈ S0 ∨ j ∈ add)) := by
    intro i j e
    constructor
    · rintro (k | k)
      · exact .inl ((hS0 i j e).mp k)
      · exact c1 i k j e
    · rintro (k | k)
      · exact .inl ((hS0 i j e).mpr k)
      · rcases h.p j k with ⟨m, hm⟩ | ⟨m, hm⟩
        · cases m with
          | zero =>
            simp [ups] at hm
            subst hm
            exact c2 i _ e (.inr k) ⟨1, by simp [ups, e]⟩
          | succ m =>
            rw [ups_succ] at hm
            obtain ⟨z, hz, hzj⟩ := Option.bind_eq_some_iff.mp hm
            have := hinj i z j e hzj
            subst this
            exact .inr (chain m _ hz)
        · exact c2 i j e (.inr k) ⟨m + 1, by simp [ups, e, hm]⟩
  intro x
  constructor
  · exact fun hx => h.cn hx
  · intro hc
    have h1 := (Cn.closed (S := fun z => z ∈ S0 ∨ z ∈ add) closed hc).mp (.inr hrow)
    rcases h1 with h1 | h1
    · exact absurd ((Cn.closed (S := fun z => z ∈ S0) hS0 hc).mpr h1) hrs
    · exact h1
end Go.Proofs.Ytbdnellgioimbaa.M
end
section
/- The links of rows. No conditions. -/
namespace Go.Proofs.Ytbdnellgioimbaa.M
set_option linter.unusedVariables false
set_option linter.unusedSimpArgs false
open Go.RowKit Go.Proofs.YtbdnellgioimbaaW.PrintWords Go.Proofs.YtbdnellgioimbaaW.PrintLast Go.Proofs.YtbdnellgioimbaaW.PrintMore Go.Proofs.Ytbdnellgioimbaa.A
theorem split_at {α : Type} (l : List α) (i : Nat) (h : i < l.length) : l = l.take i ++ l[i] :: l.drop (i + 1) ∧ (l.take i).length = i :=
  ⟨by rw [← List.drop_eq_getElem_cons h, List.take_append_drop], by rw [List.length_take]; omega⟩
def upA (A : List Int) (i : Nat) : Option Nat := if i < A.length ∧ 0 ≤ rd A (i : Int) then some (rd A (i : Int)).toNat else none
def abL (r u : List Nat) : List Int := (cycles r).map (abv r u)
theorem abL_len (r u : List Nat) : (abL r u).length = (cycles r).length := by simp [abL]
theorem rd_abL {r u : List Nat} {i : Nat} (h : i < (cycles r).length) : rd (abL r u) (i : Int) = abv r u ((cycles r)[i]) := by
  unfold abL
  rw [rd_get _ _ (by rw [List.length_map]; exact h)]
  simp
theorem rowIx_lt {r : List Nat} (hr : IsP r) {x : Nat} (hx : x < r.length) : ∃ h : rowIx (cycles r) x < (cycles r).length, x ∈ (cycles r)[rowIx (cycles r) x] := by
  obtain ⟨a, c, b, e1, e2, e3⟩ := row_at hr hx
  have h := rowIx_eq e1 e2 e3
  have hl : a.length < (cycles r).length := by rw [e1]; simp
  rw [h]
  refine ⟨hl, ?_⟩
  have : (cycles r)[a.length]'hl = c := by
    have h2 : (cycles r)[a.length]? = some c := by rw [e1]; simp
    exact (List.getElem?_eq_some_iff.mp h2).2
  rw [this]
  exact e2
theorem ix_of_mem {r : List Nat} (hr : IsP r) {i : Nat} (h : i < (cycles r).length) {x : Nat} (hx : x ∈ (cycles r)[i]) : rowIx (cycles r) x = i := by
  obtain ⟨e1, e2⟩ := split_at (cycles r) i h
  have := cycle_ix hr e1 hx
  rw [e2] at this
  exact this
theorem upA_form {r u : List Nat} (hs : Sf r u) {i j : Nat} (h : upA (abL r u) i = some j) : ∃ hi : i < (cycles r).length, ∃ s, s < r.length ∧ (cycles r)[i] = orb r s ∧ s ∈ (cycles r)[i] ∧ (∀ x ∈ (cycles r)[i], g (arnd r u) x = x) ∧ g u s < r.length ∧ j = rowIx (cycles r) (g u s) := by
  unfold upA at h
  split at h
  · rename_i hc
    obtain ⟨h1, h2⟩ := hc
    rw [abL_len] at h1
    rw [rd_abL h1] at h2 h
    unfold abv at h2 h
    by_cases hreg : regB r u ((cycles r)[i]) = true
    · rw [if_pos hreg] at h
      obtain ⟨s, t, hs0, ec, eo, _⟩ := cycle_form hs.pr (List.getElem_mem h1)
      have hhead : ((cycles r)[i]).headD 0 = s := by rw [ec]; rfl
      rw [hhead] at h
      refine ⟨h1, s, hs0, eo, by rw [ec]; simp, regB_iff.mp hreg, by rw [← hs.eq]; exact g_lt hs.pu (by rw [hs.eq]; exact hs0), ?_⟩
      injection h with h
      omega
    · rw [if_neg hreg] at h2
      omega
  · cases h
theorem upA_lt {r u : List Nat} (hs : Sf r u) : ∀ i j, upA (abL r u) i = some j → i < (cycles r).length ∧ j < (cycles r).length := by
  intro i j h
  obtain ⟨hi, s, hs0, _, _, _, hu, e⟩ := upA_form hs h
  refine ⟨hi, ?_⟩
  rw [e]
  exact (rowIx_lt hs.pr hu).1
theorem upA_inj {r u : List Nat} (hs : Sf r u) {i i' j : Nat} (h : upA (abL r u) i = some j) (h' : upA (abL r u) i' = some j) : i = i' := by
  obtain ⟨hi, s, hs0, eo, hm, hreg, hu, e⟩ := upA_form hs h
  obtain ⟨hi', s', hs0', eo', hm', hreg', hu', e'⟩ := upA_form hs h'
  obtain ⟨hj, k1⟩ := rowIx_lt hs.pr hu
  obtain ⟨hj', k2⟩ := rowIx_lt hs.pr hu'
  have ej : rowIx (cycles r) (g u s') = rowIx (cycles r) (g u s) := by rw [← e, ← e']
  simp only [ej] at k2
  obtain ⟨z, _, hz, _, ez, _⟩ := cycle_form hs.pr (List.getElem_mem hj)
  rw [ez] at k1 k2
  have k3 : g u s' ∈ orb r (g u s) := orb_trans hs.pr hu (orb_sym hs.pr hz k1) k2
  obtain ⟨m, hmm⟩ := (mem_orb hs.pr hu).mp k3
  have hup := reg_up hs hs0 (fun x hx => hreg x (by rw [eo]; exact hx)) m
  rw [hmm] at hup
  have e2 : itr r m s = s' := g_inj hs.pu (by rw [hs.eq]; exact itr_lt hs.pr m hs0) (by rw [hs.eq]; exact hs0') hup
  have hin : s' ∈ (cycles r)[i] := by
    rw [eo]
    exact (mem_orb hs.pr hs0).mpr ⟨m, e2⟩
  rw [← ix_of_mem hs.pr hi hin, ← ix_of_mem hs.pr hi' hm']
end Go.Proofs.Ytbdnellgioimbaa.M
end
section
/- The row above: the reference's list, the program's answer. No conditions. -/
namespace Go.Proofs.Ytbdnellgioimbaa.M
set_option linter.unusedVariables false
set_option linter.unusedSimpArgs false
open Go.RowKit Go.Proofs.YtbdnellgioimbaaW.PrintWords Go.Proofs.YtbdnellgioimbaaW.PrintLast Go.Proofs.YtbdnellgioimbaaW.PrintMore Go.Proofs.Ytbdnellgioimbaa.A
theorem above_ev {r u : List Nat} (hs : Sf r u) : Ev (fun k => spec_l08Above.f k (I r) (I u) (I2 (cycles r))) ((cycles r).map (abv r u)) := by
  have hle := hs.le
  have heq := hs.eq
  have hlen := cycles_len (p := r) hs.le
  unfold spec_l08Above.f
  refine Ev.bind (spec_around hs) ?_
  have H : ∀ (c1 c0 : List (List Nat)), cycles r = c0 ++ c1 → Ev (fun k => spec_l08Above.l0 k (I2 (cycles r)) (I (arnd r u)) (c0.map (abv r u)) (I2 (cycles r)) ((I2 (cycles r)).length : Int) (c0.length : Int) (I r) (I u)) ((cycles r).map (abv r u)) := by
    intro c1
    induction c1 with
    | nil =>
      intro c0 e
      have e' : cycles r = c0 := by simpa using e
      refine ev_succ ?_
      have h1 : ¬ ((c0.length : Int) < ((I2 (cycles r)).length : Int)) := by rw [I2_len, e']; omega
      simp only [spec_l08Above.l0, h1, if_false]
      rw [← e']
      exact Ev.now _
    | cons c c1 ih =>
      intro c0 e
      refine ev_succ ?_
      have hmem : c ∈ cycles r := by rw [e]; simp
      obtain ⟨s, t, hs0, ec, eo, _⟩ := cycle_form hs.pr hmem
      have hcl := cycle_len hs.pr hs.le c hmem
      have hl : c0.length < (cycles r).length := by rw [e]; simp
      have d1 : (c0.length : Int) < ((I2 (cycles r)).length : Int) := by rw [I2_len]; omega
      have d2 : (0 : Int) ≤ (c0.length : Int) := by omega
      have e1 : rd_L1 (I2 (cycles r)) (c0.length : Int) = I c := by rw [e]; exact rdL_mid c0 c c1
      have d3 : (0 : Int) < (c.length : Int) := by rw [ec]; simp
      have e2 : rd (I c) 0 = (s : Int) := by rw [ec]; rfl
      have d4 : (0 : Int) ≤ (s : Int) := by omega
      have d5 : (s : Int) < (u.length : Int) := by omega
      have hus : g u s < r.length := by rw [← heq]; exact g_lt hs.pu (by omega)
      obtain ⟨a2, c2, b2, f1, f2, f3⟩ := row_at hs.pr hus
      simp only [spec_l08Above.l0, d1, d2, e1, d3, e2, d4, d5, I_len', rdI, if_true]
      refine Ev.bind (row_ev (by omega) (fun c hc => by have := cycle_len hs.pr hs.le c hc; omega) f1 f2 f3) ?_
      have hix : rowIx (cycles r) (g u s) = a2.length := rowIx_eq f1 f2 f3
      have G : ∀ (x1 x0 : List Nat), c = x0 ++ x1 → Ev (fun k => spec_l08Above.l1 k (I2 (cycles r)) (I (arnd r u)) (c0.map (abv r u)) (if regB r u x0 = true then (a2.length : Int) else -1) (I2 (cycles r)) ((I2 (cycles r)).length : Int) (c0.length : Int) (I c) (c.length : Int) (x0.length : Int) (I r) (I u)) ((cycles r).map (abv r u)) := by
        intro x1
        induction x1 with
        | nil =>
          intro x0 ex
          have ex' : c = x0 := by simpa using ex
          refine ev_succ ?_
          have g1 : ¬ ((x0.length : Int) < (c.length : Int)) := by rw [ex']; omega
          have g2 : (c0.map (abv r u)).length < 17592186044416 := by rw [List.length_map]; omega
          have g3 := w64s c0.length (by omega)
          simp only [spec_l08Above.l1, g1, g2, if_true, if_false, g3]
          have := ih (c0 ++ [c]) (by rw [e]; simp)
          have e3 : ((c0 ++ [c]).length : Int) = ((c0.length + 1 : Nat) : Int) := by simp
          rw [e3] at this
          have e4 : (c0 ++ [c]).map (abv r u) = c0.map (abv r u) ++ [if regB r u x0 = true then (a2.length : Int) else -1] := by
            rw [List.map_append, ← ex']
            have : c.headD 0 = s := by rw [ec]; rfl
            simp only [List.map_cons, List.map_nil, abv, this, hix]
          rw [e4] at this
          exact this
        | cons x x1 ihx =>
          intro x0 ex
          refine ev_succ ?_
          have hxm : x ∈ c := by rw [ex]; simp
          have hx : x < r.length := by rw [eo] at hxm; exact orb_lt hs.pr hs0 hxm
          have hxl : x0.length < c.length := by rw [ex]; simp
          have g1 : (x0.length : Int) < (c.length : Int) := by omega
          have g2 : (0 : Int) ≤ (x0.length : Int) := by omega
          have g3 : g c x0.length = x := by rw [ex]; exact getD_mid x0 x x1 0
          have g4 : (0 : Int) ≤ (x : Int) := by omega
          have g5 : (x : Int) < ((arnd r u).length : Int) := by rw [arnd_len]; omega
          have g6 := w64s x0.length (by omega)
          have e3 : ((x0 ++ [x]).length : Int) = ((x0.length + 1 : Nat) : Int) := by simp
          have hn := ihx (x0 ++ [x]) (by rw [ex]; simp)
          rw [e3] at hn
          have hreg : regB r u (x0 ++ [x]) = (regB r u x0 && (g (arnd r u) x == x)) := by unfold regB; simp
          by_cases hq : g (arnd r u) x = x
          · have hq' : (((g (arnd r u) x : Nat) : Int) = (x : Int)) := by rw [hq]
            rw [hreg] at hn
            simp only [hq, beq_self_eq_true, Bool.and_true] at hn
            simp only [spec_l08Above.l1, g1, g2, rdI, g3, g4, g5, I_len', hq', if_true, g6]
            exact hn
          · have hq' : ¬ (((g (arnd r u) x : Nat) : Int) = (x : Int)) := by omega
            rw [hreg] at hn
            have hb : (g (arnd r u) x == x) = false := by simpa using hq
            simp only [hb, Bool.and_false, Bool.false_eq_true, if_false] at hn
            simp only [spec_l08Above.l1, g1, g2, rdI, g3, g4, g5, I_len', hq', if_true, if_false, g6]
            exact hn
      have := G c [] rfl
      simpa [regB] using this
  exact H (cycles r) [] rfl
theorem rowAbove_impl {r u : List Nat} (hs : Sf r u) {x : Nat} (hx : x < r.length) {a : List (List Nat)} {c : List Nat} {b : List (List Nat)} (e1 : cycles r = a ++ c :: b) (e2 : x ∈ c) (e3 : ∀ d ∈ a, x ∉ d) {s : Nat} (hhead : c.headD 0 = s) {a2 : List (List Nat)} {c2 : List Nat} {b2 : List (List Nat)} (f1 : cycles r = a2 ++ c2 :: b2) (f2 : g u s ∈ c2) (f3 : ∀ d ∈ a2, g u s ∉ d) : Ev (fun k => impl_RowAbove.j0 k (x : Int) false (I r) (I u)) (if regB r u c = true then ((c2.headD 0 : Nat) : Int) else -1) := by
  have hle := hs.le
  have heq := hs.eq
  have hmem : c ∈ cycles r := by rw [e1]; simp
  obtain ⟨s', t, hs0, ec, eo, hleast⟩ := cycle_form hs.pr hmem
  have hhead' : c.headD 0 = s' := by rw [ec]; rfl
  obtain rfl : s' = s := by rw [← hhead', hhead]
  have hus : g u s' < r.length := by rw [← heq]; exact g_lt hs.pu (by omega)
  have hux : g u x < r.length := by rw [← heq]; exact g_lt hs.pu (by omega)
  have hmem2 : c2 ∈ cycles r := by rw [f1]; simp
  obtain ⟨s2, t2, hs2, ec2, eo2, hleast2⟩ := cycle_form hs.pr hmem2
  have hcl := cycle_len hs.pr hs.le c hmem
  have hcl2 := cycle_len hs.pr hs.le c2 hmem2
  have h2 : c2.headD 0 = s2 := by rw [ec2]; rfl
  rw [h2]
  refine ev_succ ?_
  simp only [impl_RowAbove.j0, Bool.false_eq_true, if_false]
  refine Ev.bind (impl_around hs) (Ev.bind (rowOf_ev hs.pr hs.le (I u) e1 e2 e3) ?_)
  have G : ∀ (x1 x0 : List Nat), c = x0 ++ x1 → regB r u x0 = true → Ev (fun k => impl_RowAbove.l0 k (x : Int) (I (arnd r u)) (I c) ((I c).length : Int) (x0.length : Int) (I r) (I u)) (if regB r u c = true then (s2 : Int) else -1) := by
    intro x1
    induction x1 with
    | nil =>
      intro x0 ex hreg
      have ex' : c = x0 := by simpa using ex
      refine ev_succ ?_
      have g1 : ¬ ((x0.length : Int) < (c.length : Int)) := by rw [ex']; omega
      have g2 : (0 : Int) ≤ (x : Int) := by omega
      have g3 : (x : Int) < (u.length : Int) := by omega
      rw [← ex'] at hreg
      have hall := regB_iff.mp hreg
      have hxo : x ∈ orb r s' := by rw [← eo]; exact e2
      obtain ⟨m, hm⟩ := (mem_orb hs.pr hs0).mp hxo
      have hup := reg_up hs hs0 (fun y hy => hall y (by rw [eo]; exact hy)) m
      rw [hm] at hup
      have hin : g u x ∈ orb r (g u s') := (mem_orb hs.pr hus).mpr ⟨m, hup.symm⟩
      have k1 : g u x ∈ c2 := (cycle_same hs.pr hmem2 hus hin).mp f2
      have k2 : ∀ d ∈ a2, g u x ∉ d := fun d hd h => f3 d hd ((cycle_same hs.pr (by rw [f1]; simp [hd]) hus hin).mpr h)
      simp only [impl_RowAbove.l0, g1, g2, g3, I_len', rdI, if_true, if_false, hreg]
      refine Ev.bind (rowOf_ev hs.pr hs.le (I u) f1 k1 k2) ?_
      have k3 := min_ev s2 t2 (fun y hy => hleast2 y (by rw [ec2]; simp [hy])) (by rw [ec2] at hcl2; simp at hcl2; omega)
      rw [← ec2] at k3
      exact Ev.bind k3 (Ev.now _)
    | cons y x1 ihx =>
      intro x0 ex hreg
      refine ev_succ ?_
      have hym : y ∈ c := by rw [ex]; simp
      have hy : y < r.length := by rw [eo] at hym; exact orb_lt hs.pr hs0 hym
      have hxl : x0.length < c.length := by rw [ex]; simp
      have g1 : (x0.length : Int) < (c.length : Int) := by omega
      have g2 : (0 : Int) ≤ (x0.length : Int) := by omega
      have g3 : g c x0.length = y := by rw [ex]; exact getD_mid x0 y x1 0
      have g4 : (0 : Int) ≤ (y : Int) := by omega
      have g5 : (y : Int) < ((arnd r u).length : Int) := by rw [arnd_len]; omega
      have g6 := w64s x0.length (by omega)
      have e3 : ((x0 ++ [y]).length : Int) = ((x0.length + 1 : Nat) : Int) := by simp
      by_cases hq : g (arnd r u) y = y
      · have hq' : (((g (arnd r u) y : Nat) : Int) = (y : Int)) := by rw [hq]
        have hn := ihx (x0 ++ [y]) (by rw [ex]; simp) (by unfold regB at hreg ⊢; simp at hreg ⊢; exact ⟨hreg, hq⟩)
        rw [e3] at hn
        simp only [I_len'] at hn
        simp only [impl_RowAbove.l0, g1, g2, rdI, g3, g4, g5, I_len', hq', if_true, g6]
        exact hn
      · have hq' : ¬ (((g (arnd r u) y : Nat) : Int) = (y : Int)) := by omega
        have hr0 : ¬ regB r u c = true := fun h => hq (regB_iff.mp h y hym)
        simp only [impl_RowAbove.l0, g1, g2, rdI, g3, g4, g5, I_len', hq', if_true, if_false, hr0]
        exact Ev.now _
  exact G c [] rfl (by simp [regB])
end Go.Proofs.Ytbdnellgioimbaa.M
end
section
/- The cylinders: rows, and the program. No conditions. -/
namespace Go.Proofs.Ytbdnellgioimbaa.M
set_option linter.unusedVariables false
set_option linter.unusedSimpArgs false
open Go.RowKit Go.Proofs.YtbdnellgioimbaaW.PrintWords Go.Proofs.YtbdnellgioimbaaW.PrintLast Go.Proofs.YtbdnellgioimbaaW.PrintMore Go.Proofs.Ytbdnellgioimbaa.A
def hd (l : List (List Nat)) (j : Nat) : Nat := (l.getD j []).headD 0
theorem hd_eq {l : List (List Nat)} {j : Nat} (h : j < l.length) : hd l j = (l[j]).headD 0 := by
  unfold hd
  rw [List.getD_eq_getElem?_getD, List.getElem?_eq_getElem h]
  rfl
theorem hd_mem {r : List Nat} (hr : IsP r) {i : Nat} (h : i < (cycles r).length) : hd (cycles r) i ∈ (cycles r)[i] ∧ hd (cycles r) i < r.length := by
  obtain ⟨s, t, hs0, ec, eo, _⟩ := cycle_form hr (List.getElem_mem h)
  have e : hd (cycles r) i = s := by rw [hd_eq h, ec]; rfl
  rw [e]
  exact ⟨by rw [ec]; simp, hs0⟩
theorem hd_inj {r : List Nat} (hr : IsP r) {i j : Nat} (hi : i < (cycles r).length) (hj : j < (cycles r).length) (h : hd (cycles r) i = hd (cycles r) j) : i = j := by
  rw [← ix_of_mem hr hi (hd_mem hr hi).1, h, ix_of_mem hr hj (hd_mem hr hj).1]
theorem at_ix {l : List (List Nat)} {a : List (List Nat)} {c : List Nat} {b : List (List Nat)} (e : l = a ++ c :: b) {i : Nat} (hi : i < l.length) (h : a.length = i) : l[i] = c := by
  have h2 : l[i]? = some c := by rw [e, ← h]; simp
  exact (List.getElem?_eq_some_iff.mp h2).2
theorem rowAbove_at {r u : List Nat} (hs : Sf r u) {i : Nat} (hi : i < (cycles r).length) : rowIx (cycles r) (g u (hd (cycles r) i)) < (cycles r).length ∧ Ev (fun k => impl_RowAbove.f k (I r) (I u) ((hd (cycles r) i : Nat) : Int)) (if regB r u ((cycles r)[i]) = true then ((hd (cycles r) (rowIx (cycles r) (g u (hd (cycles r) i))) : Nat) : Int) else -1) := by
  obtain ⟨hm, hx⟩ := hd_mem hs.pr hi
  have hus : g u (hd (cycles r) i) < r.length := by rw [← hs.eq]; exact g_lt hs.pu (by rw [hs.eq]; exact hx)
  obtain ⟨a, c, b, e1, e2, e3⟩ := row_at hs.pr hx
  have ha : a.length = i := by rw [← rowIx_eq e1 e2 e3, ix_of_mem hs.pr hi hm]
  have hc := at_ix e1 hi ha
  obtain ⟨a2, c2, b2, f1, f2, f3⟩ := row_at hs.pr hus
  have ha2 := rowIx_eq f1 f2 f3
  have hl2 : a2.length < (cycles r).length := by rw [f1]; simp
  have hc2 := at_ix f1 hl2 rfl
  have hhead : c.headD 0 = hd (cycles r) i := by rw [hd_eq hi, hc]
  refine ⟨by rw [ha2]; exact hl2, ?_⟩
  have key := rowAbove_impl hs hx e1 e2 e3 hhead f1 f2 f3
  rw [ha2, hd_eq hl2, hc2, hc]
  unfold impl_RowAbove.f
  refine Ev.bind (impl_surf _ _) ?_
  have h0 := surfB_I.mpr hs
  have k1 : ¬ (((hd (cycles r) i : Nat) : Int) < 0) := by omega
  have k2 : ¬ (((hd (cycles r) i : Nat) : Int) ≥ (r.length : Int)) := by omega
  simp only [h0, k1, k2, I_len', if_true, if_false, decide_false]
  exact key
theorem rowAbove_up {r u : List Nat} (hs : Sf r u) {i j : Nat} (h : upA (abL r u) i = some j) : Ev (fun k => impl_RowAbove.f k (I r) (I u) ((hd (cycles r) i : Nat) : Int)) ((hd (cycles r) j : Nat) : Int) := by
  obtain ⟨hi, s, hs0, eo, hm, hreg, hu, e⟩ := upA_form hs h
  obtain ⟨k1, k2⟩ := rowAbove_at hs hi
  have hb : regB r u ((cycles r)[i]) = true := regB_iff.mpr hreg
  rw [if_pos hb] at k2
  unfold upA at h
  rw [abL_len] at h
  rw [rd_abL hi] at h
  have e2 : abv r u ((cycles r)[i]) = ((rowIx (cycles r) (g u (hd (cycles r) i)) : Nat) : Int) := by
    unfold abv
    rw [if_pos hb, hd_eq hi]
  rw [e2, if_pos ⟨hi, by omega⟩] at h
  injection h with h
  have h' : rowIx (cycles r) (g u (hd (cycles r) i)) = j := by omega
  rw [h'] at k2
  exact k2
theorem rowAbove_no {r u : List Nat} (hs : Sf r u) {i : Nat} (hi : i < (cycles r).length) (h : upA (abL r u) i = none) : Ev (fun k => impl_RowAbove.f k (I r) (I u) ((hd (cycles r) i : Nat) : Int)) (-1) := by
  obtain ⟨k1, k2⟩ := rowAbove_at hs hi
  have hb : ¬ regB r u ((cycles r)[i]) = true := by
    intro hb
    unfold upA at h
    rw [abL_len, rd_abL hi] at h
    have e2 : abv r u ((cycles r)[i]) = ((rowIx (cycles r) (g u (hd (cycles r) i)) : Nat) : Int) := by
      unfold abv
      rw [if_pos hb, hd_eq hi]
    rw [e2, if_pos ⟨hi, by omega⟩] at h
    cases h
  rw [if_neg hb] at k2
  exact k2
theorem idxF_ev : ∀ (L : List (List Nat)) (p j : Nat), (∀ c ∈ L, 0 < c.length) → j < L.length → (∀ i, i < j → hd L i ≠ hd L j) → idxF (I2 L) ((hd L j : Nat) : Int) p = some ((p + j : Nat) : Int) := by
  intro L
  induction L with
  | nil => intro p j _ h; simp at h
  | cons c L ih =>
    intro p j hne hj hd'
    have hc := hne c (by simp)
    have e : I2 (c :: L) = I c :: I2 L := rfl
    rw [e]
    have h1 : 0 < (I c).length := by rw [I_len]; exact hc
    have h2 : rd (I c) 0 = ((c.headD 0 : Nat) : Int) := by
      cases c with
      | nil => simp at hc
      | cons x xs => rfl
    unfold idxF
    rw [if_pos h1, h2]
    cases j with
    | zero =>
      have : hd (c :: L) 0 = c.headD 0 := rfl
      rw [this, if_pos rfl]
      rfl
    | succ j =>
      have h3 := hd' 0 (by omega)
      have h4 : hd (c :: L) 0 = c.headD 0 := rfl
      have h5 : hd (c :: L) (j + 1) = hd L j := rfl
      rw [h4, h5] at h3
      rw [h5, if_neg (by omega), ih (p + 1) j (fun d hd2 => hne d (by simp [hd2])) (by simpa using hj) (fun i hi => ?_)]
      · congr 2
        omega
      · have := hd' (i + 1) (by omega)
        rw [h5] at this
        exact this
theorem tab_set {n i v : Nat} {F : Nat → Nat} : (I (tab n F)).set i (v : Int) = I (tab n (fun j => if j = i then v else F j)) := by
  apply List.ext_getElem
  · simp [I, tab]
  · intro k h1 h2
    simp only [I, tab, List.getElem_set, List.getElem_map, List.getElem_range]
    by_cases e : i = k
    · rw [if_pos e, if_pos e.symm]; rfl
    · rw [if_neg e, if_neg (fun h => e h.symm)]
theorem rd_tab {n i : Nat} {F : Nat → Nat} (h : i < n) : rd (I (tab n F)) (i : Int) = ((F i : Nat) : Int) := by rw [rdI, g_tab h]
theorem indexFunc_ev {r : List Nat} (hr : IsP r) (h24 : r.length ≤ 24) {j : Nat} (hj : j < (cycles r).length) : slices_IndexFunc_int_int.f (I2 (cycles r)) ((hd (cycles r) j : Nat) : Int) = some (j : Int) := by
  unfold slices_IndexFunc_int_int.f
  rw [if_pos (by rw [I2_len]; have := cycles_len (p := r) h24; omega)]
  have := idxF_ev (cycles r) 0 j (fun c hc => by obtain ⟨s, t, _, ec, _⟩ := cycle_form hr hc; rw [ec]; simp) hj (fun i hi e => by have := hd_inj hr (by omega) hj e; omega)
  rw [Nat.zero_add] at this
  exact this
theorem rdL_at {l : List (List Nat)} {i : Nat} (h : i < l.length) : rd_L1 (I2 l) (i : Int) = I (l[i]) := by
  obtain ⟨e1, e2⟩ := split_at l i h
  have := rdL_mid (l.take i) (l[i]) (l.drop (i + 1))
  rw [← e1, e2] at this
  exact this
theorem rd_head {c : List Nat} (h : 0 < c.length) : rd (I c) 0 = ((c.headD 0 : Nat) : Int) := by
  cases c with
  | nil => simp at h
  | cons x xs => rfl
end Go.Proofs.Ytbdnellgioimbaa.M
end
section
/- The cylinders: what the program comes to. No conditions. -/
namespace Go.Proofs.Ytbdnellgioimbaa.M
set_option linter.unusedVariables false
set_option linter.unusedSimpArgs false
open Go.RowKit Go.Proofs.YtbdnellgioimbaaW.PrintWords Go.Proofs.YtbdnellgioimbaaW.PrintLast Go.Proofs.YtbdnellgioimbaaW.PrintMore Go.Proofs.Ytbdnellgioimbaa.A
def cntG (G : Nat → Nat) (n i : Nat) : Nat := ((List.range n).filter (fun q => decide (G q = i))).length
theorem cntG_le (G : Nat → Nat) (n i : Nat) : cntG G n i ≤ n := by
  have := List.length_filter_le (fun q => decide (G q = i)) (List.range n)
  rw [List.length_range] at this
  exact this
theorem cntG_succ (G : Nat → Nat) (n i : Nat) : cntG G (n + 1) i = cntG G n i + (if G n = i then 1 else 0) := by
  unfold cntG
  rw [List.range_succ, List.filter_append, List.length_append]
  by_cases h : G n = i <;> simp [h]
def outG (C : List (List Nat)) (G : Nat → Nat) (n i : Nat) : List S44 := ((List.range i).filter (fun q => decide (G q = q))).map (fun q => (⟨(((C.getD q []).length : Nat) : Int), ((cntG G n q : Nat) : Int)⟩ : S44))
theorem outG_len (C : List (List Nat)) (G : Nat → Nat) (n i : Nat) : (outG C G n i).length ≤ i := by
  unfold outG
  rw [List.length_map]
  have := List.length_filter_le (fun q => decide (G q = q)) (List.range i)
  rw [List.length_range] at this
  exact this
theorem outG_yes {C : List (List Nat)} {G : Nat → Nat} {n i : Nat} (h : G i = i) : outG C G n (i + 1) = outG C G n i ++ [(⟨(((C.getD i []).length : Nat) : Int), ((cntG G n i : Nat) : Int)⟩ : S44)] := by
  unfold outG
  rw [List.range_succ, List.filter_append, List.map_append]
  simp [h]
theorem outG_no {C : List (List Nat)} {G : Nat → Nat} {n i : Nat} (h : ¬ G i = i) : outG C G n (i + 1) = outG C G n i := by
  unfold outG
  rw [List.range_succ, List.filter_append, List.map_append]
  simp [h]
theorem impl_l4 {C : List (List Nat)} {G : Nat → Nat} {n i : Nat} (hn : n = C.length) (h24 : n ≤ 24) (hi : i < n) {res : List S44 × Bool}
    (h : Ev (fun k => impl_CylindersOf.l3 k (I (tab n G)) (outG C G n i ++ [(⟨(((C.getD i []).length : Nat) : Int), ((cntG G n i : Nat) : Int)⟩ : S44)]) (I2 C) (n : Int) ((i + 1 : Nat) : Int)) res) :
    ∀ d q : Nat, q + d = n → Ev (fun k => impl_CylindersOf.l4 k (I (tab n G)) (outG C G n i) (i : Int) (I2 C) (n : Int) (i : Int) (I (tab n G)) (n : Int) (q : Int) (((C.getD i []).length : Nat) : Int) ((cntG G q i : Nat) : Int)) res := by
  intro d
  induction d with
  | zero =>
    intro q hq
    obtain rfl : q = n := by omega
    refine ev_succ ?_
    have c1 : ¬ ((q : Int) < (q : Int)) := by omega
    have c2 : (outG C G q i).length < 8796093022208 := by have := outG_len C G q i; omega
    have c3 := w64s i (by omega)
    simp only [impl_CylindersOf.l4, c1, c2, c3, if_true, if_false]
    exact h
  | succ d ih =>
    intro q hq
    refine ev_succ ?_
    have hle := cntG_le G q i
    have c1 : (q : Int) < (n : Int) := by omega
    have c2 : (0 : Int) ≤ (q : Int) := by omega
    have c3 : (q : Int) < ((I (tab n G)).length : Int) := by rw [I_len, tab_len]; exact c1
    have c4 : rd (I (tab n G)) (q : Int) = ((G q : Nat) : Int) := rd_tab (by omega)
    have key := ih (q + 1) (by omega)
    rw [cntG_succ] at key
    by_cases e : G q = i
    · rw [if_pos e] at key
      have e' : ((G q : Nat) : Int) = (i : Int) := by rw [e]
      have c6 := w64s (cntG G q i) (by omega)
      have c5 := w64s q (by omega)
      simp only [impl_CylindersOf.l4, c1, c2, c3, c4, c5, c6, e', if_true]
      exact key
    · rw [if_neg e, Nat.add_zero] at key
      have e' : ¬ (((G q : Nat) : Int) = (i : Int)) := by omega
      have c5 := w64s q (by omega)
      simp only [impl_CylindersOf.l4, c1, c2, c3, c4, c5, e', if_true, if_false]
      exact key
theorem impl_l3 {C : List (List Nat)} {G : Nat → Nat} {n : Nat} (hn : n = C.length) (h24 : n ≤ 24) :
    ∀ d i : Nat, i + d = n → Ev (fun k => impl_CylindersOf.l3 k (I (tab n G)) (outG C G n i) (I2 C) (n : Int) (i : Int)) (outG C G n n, true) := by
  intro d
  induction d with
  | zero =>
    intro i hi
    obtain rfl : i = n := by omega
    refine ev_succ ?_
    have c1 : ¬ ((i : Int) < (i : Int)) := by omega
    simp only [impl_CylindersOf.l3, c1, if_false]
    exact Ev.now _
  | succ d ih =>
    intro i hi
    refine ev_succ ?_
    have hin : i < n := by omega
    have c1 : (i : Int) < (n : Int) := by omega
    have c2 : (0 : Int) ≤ (i : Int) := by omega
    have c3 : (i : Int) < ((I (tab n G)).length : Int) := by rw [I_len, tab_len]; exact c1
    have c3' : (i : Int) < ((I2 C).length : Int) := by rw [I2_len]; omega
    have c4 : rd (I (tab n G)) (i : Int) = ((G i : Nat) : Int) := rd_tab (by omega)
    have hC : i < C.length := by omega
    have c6 : rd_L1 (I2 C) (i : Int) = I (C[i]) := rdL_at hC
    have c7 : ((I (C[i])).length : Int) = (((C.getD i []).length : Nat) : Int) := by rw [I_len, List.getD_eq_getElem?_getD, List.getElem?_eq_getElem hC]; rfl
    have c8 : ((I (tab n G)).length : Int) = (n : Int) := by rw [I_len, tab_len]
    have key := ih (i + 1) (by omega)
    by_cases e : G i = i
    · have e' : ((G i : Nat) : Int) = (i : Int) := by rw [e]
      rw [outG_yes e] at key
      have := impl_l4 (C := C) (G := G) (n := n) (i := i) hn h24 hin key n 0 (Nat.zero_add n)
      rw [show cntG G 0 i = 0 from rfl] at this
      simp only [impl_CylindersOf.l3, c1, c2, c3, c3', c4, c6, c7, e', if_true]
      simp only [c8]
      exact this
    · rw [outG_no e] at key
      have e' : ¬ (((G i : Nat) : Int) = (i : Int)) := by omega
      have c5 := w64s i (by omega)
      simp only [impl_CylindersOf.l3, c1, c2, c3, c3', c4, c5, e', if_true, if_false]
      exact key
theorem impl_l2 {C : List (List Nat)} {r u : List Int} {G : Nat → Nat} {n a b t : Nat} (hn : n = C.length) (h24 : n ≤ 24) (ht : t < n) {res : List S44 × Bool}
    (h : Ev (fun k => impl_CylindersOf.l1 k (I2 C) (I (tab n (mgf G a b))) (I2 C) (n : Int) ((t + 1 : Nat) : Int) r u) res) :
    ∀ d i : Nat, i + d = n → Ev (fun k => impl_CylindersOf.l2 k (I2 C) (I (tab n (fun q => if q < i then mgf G a b q else G q))) (a : Int) (b : Int) (I2 C) (n : Int) (t : Int) (n : Int) (i : Int) r u) res := by
  intro d
  induction d with
  | zero =>
    intro i hi
    obtain rfl : i = n := by omega
    refine ev_succ ?_
    have c1 : ¬ ((i : Int) < (i : Int)) := by omega
    have e : tab i (fun q => if q < i then mgf G a b q else G q) = tab i (mgf G a b) := tab_ext (fun q hq => by rw [if_pos hq])
    have c2 := w64s t (by omega)
    simp only [impl_CylindersOf.l2, c1, c2, e, if_false]
    exact h
  | succ d ih =>
    intro i hi
    refine ev_succ ?_
    have c1 : (i : Int) < (n : Int) := by omega
    have c2 : (0 : Int) ≤ (i : Int) := by omega
    have c3 : (i : Int) < ((I (tab n (fun q => if q < i then mgf G a b q else G q))).length : Int) := by rw [I_len, tab_len]; exact c1
    have c4 : rd (I (tab n (fun q => if q < i then mgf G a b q else G q))) (i : Int) = ((G i : Nat) : Int) := by rw [rd_tab (by omega), if_neg (by omega)]
    have c6 : mn (a : Int) (b : Int) = ((min a b : Nat) : Int) := by unfold mn; split <;> omega
    have c7 : ((i : Int)).toNat = i := rfl
    have key := ih (i + 1) (by omega)
    by_cases e : G i = a ∨ G i = b
    · have e1 : (I (tab n (fun q => if q < i then mgf G a b q else G q))).set i ((min a b : Nat) : Int) = I (tab n (fun q => if q < i + 1 then mgf G a b q else G q)) := by
        rw [tab_set]
        congr 1
        refine tab_ext (fun q hq => ?_)
        by_cases h1 : q = i
        · subst h1
          rw [if_pos rfl, if_pos (by omega)]
          unfold mgf
          rw [if_pos e]
        · rw [if_neg h1]
          by_cases h2 : q < i
          · rw [if_pos h2, if_pos (by omega)]
          · rw [if_neg h2, if_neg (by omega)]
      rw [← e1] at key
      by_cases ea : G i = a
      · have e' : ((G i : Nat) : Int) = (a : Int) := by rw [ea]
        have c5 := w64s i (by omega)
        simp only [impl_CylindersOf.l2, c1, c2, c3, c4, c5, c6, c7, e', if_true]
        exact key
      · have eb : G i = b := by rcases e with e | e; exact absurd e ea; exact e
        have e' : ¬ (((G i : Nat) : Int) = (a : Int)) := by omega
        have e'' : ((G i : Nat) : Int) = (b : Int) := by rw [eb]
        have e3 : ¬ ((b : Int) = (a : Int)) := by omega
        have c5 := w64s i (by omega)
        simp only [impl_CylindersOf.l2, c1, c2, c3, c4, c5, c6, c7, e'', e3, if_true, if_false]
        exact key
    · have ea : ¬ (((G i : Nat) : Int) = (a : Int)) := fun h => e (Or.inl (by omega))
      have eb : ¬ (((G i : Nat) : Int) = (b : Int)) := fun h => e (Or.inr (by omega))
      have e1 : tab n (fun q => if q < i then mgf G a b q else G q) = tab n (fun q => if q < i + 1 then mgf G a b q else G q) := by
        refine tab_ext (fun q hq => ?_)
        by_cases h1 : q = i
        · subst h1
          rw [if_neg (by omega), if_pos (by omega)]
          unfold mgf
          rw [if_neg e]
        · by_cases h2 : q < i
          · rw [if_pos h2, if_pos (by omega)]
          · rw [if_neg h2, if_neg (by omega)]
      rw [← e1] at key
      have c5 := w64s i (by omega)
      simp only [impl_CylindersOf.l2, c1, c2, c3, c4, c5, ea, eb, if_true, if_false]
      exact key
theorem impl_l1 {r u : List Nat} (hs : Sf r u) : ∀ (d t : Nat) (G : Nat → Nat), t + d = (cycles r).length → Grp (cycles r).length (upA (abL r u)) t G →
    ∃ G', Grp (cycles r).length (upA (abL r u)) (cycles r).length G' ∧ ∀ res : List S44 × Bool, Ev (fun k => impl_CylindersOf.l3 k (I (tab (cycles r).length G')) [] (I2 (cycles r)) ((cycles r).length : Int) 0) res →
      Ev (fun k => impl_CylindersOf.l1 k (I2 (cycles r)) (I (tab (cycles r).length G)) (I2 (cycles r)) ((cycles r).length : Int) (t : Int) (I r) (I u)) res := by
  have h24 := cycles_len (p := r) hs.le
  intro d
  induction d with
  | zero =>
    intro t G ht hG
    obtain rfl : t = (cycles r).length := by omega
    refine ⟨G, hG, fun res h => ev_succ ?_⟩
    have c1 : ¬ (((cycles r).length : Int) < ((cycles r).length : Int)) := by omega
    simp only [impl_CylindersOf.l1, c1, if_false, I2_len]
    exact h
  | succ d ih =>
    intro t G ht hG
    have htl : t < (cycles r).length := by omega
    have c1 : (t : Int) < ((cycles r).length : Int) := by omega
    have c2 : (0 : Int) ≤ (t : Int) := by omega
    have c3 : (t : Int) < ((I2 (cycles r)).length : Int) := by rw [I2_len]; omega
    have c3' : (t : Int) < ((I (tab (cycles r).length G)).length : Int) := by rw [I_len, tab_len]; exact c1
    have c6 : rd_L1 (I2 (cycles r)) (t : Int) = I ((cycles r)[t]) := rdL_at htl
    obtain ⟨s, tl, hs0, ec, _, _⟩ := cycle_form hs.pr (List.getElem_mem htl)
    have hcl : 0 < ((cycles r)[t]).length := by rw [ec]; simp
    have c7 : (0 : Int) < ((I ((cycles r)[t])).length : Int) := by rw [I_len]; omega
    have c8 : rd (I ((cycles r)[t])) 0 = ((hd (cycles r) t : Nat) : Int) := by rw [hd_eq htl]; exact rd_head hcl
    cases e : upA (abL r u) t with
    | none =>
      obtain ⟨G', g1, g2⟩ := ih (t + 1) G (by omega) (hG.skip e)
      refine ⟨G', g1, fun res h => ev_succ ?_⟩
      have k1 : (-1 : Int) < 0 := by omega
      simp only [impl_CylindersOf.l1, c1, c2, c3, c6, c7, c8, if_true]
      refine Ev.bind (rowAbove_no hs htl e) ?_
      have c5 := w64s t (by omega)
      simp only [k1, c5, if_true]
      exact g2 res h
    | some j =>
      obtain ⟨hjt, hj⟩ := upA_lt hs _ _ e
      obtain ⟨G', g1, g2⟩ := ih (t + 1) (mgf G (G t) (G j)) (by omega) (hG.merge (upA_lt hs) e)
      refine ⟨G', g1, fun res h => ev_succ ?_⟩
      have k1 : ¬ (((hd (cycles r) j : Nat) : Int) < 0) := by omega
      have k2 : (0 : Int) ≤ (j : Int) := by omega
      have k3 : (j : Int) < ((I (tab (cycles r).length G)).length : Int) := by rw [I_len, tab_len]; omega
      have k4 : rd (I (tab (cycles r).length G)) (t : Int) = ((G t : Nat) : Int) := rd_tab htl
      have k5 : rd (I (tab (cycles r).length G)) (j : Int) = ((G j : Nat) : Int) := rd_tab hj
      have k6 : ((I (tab (cycles r).length G)).length : Int) = ((cycles r).length : Int) := by rw [I_len, tab_len]
      have k7 := indexFunc_ev hs.pr hs.le hj
      simp only [impl_CylindersOf.l1, c1, c2, c3, c6, c7, c8, if_true]
      refine Ev.bind (rowAbove_up hs e) ?_
      simp only [k1, k7, Option.bind_some, if_false]
      simp only [c3', k2, k3, k4, k5, if_true]
      simp only [k6]
      have := impl_l2 (r := I r) (u := I u) rfl h24 htl (g2 res h) (cycles r).length 0 (by omega)
      have e0 : tab (cycles r).length (fun q => if q < 0 then mgf G (G t) (G j) q else G q) = tab (cycles r).length G := tab_ext (fun q hq => by rw [if_neg (by omega)])
      rw [e0] at this
      exact this
theorem impl_cyl {r u : List Nat} (hs : Sf r u) : ∃ G, Grp (cycles r).length (upA (abL r u)) (cycles r).length G ∧ Ev (fun k => impl_CylindersOf.f k (I r) (I u)) (outG (cycles r) G (cycles r).length (cycles r).length, true) := by
  have h24 := cycles_len (p := r) hs.le
  obtain ⟨G, g1, g2⟩ := impl_l1 hs (cycles r).length 0 (fun j => j) (by omega) (Grp.start _ _)
  refine ⟨G, g1, ?_⟩
  have h3 := g2 _ (impl_l3 (C := cycles r) (G := G) rfl h24 (cycles r).length 0 (by omega))
  unfold impl_CylindersOf.f
  refine Ev.bind (impl_surf _ _) ?_
  have h0 := surfB_I.mpr hs
  simp only [h0, if_true]
  refine Ev.bind (impl_cycles hs.pr hs.le) ?_
  have z1 : (0 : Int) ≤ ((cycles r).length : Int) := by omega
  have z2 : (((cycles r).length : Int)).toNat = (cycles r).length := rfl
  have z3 : (cycles r).length ≤ 35184372088832 := by omega
  simp only [I2_len, z1, z2, z3, if_true, Option.bind_some, List.length_replicate]
  have L0 : ∀ d i : Nat, i + d = (cycles r).length → Ev (fun k => impl_CylindersOf.l0 k (I2 (cycles r)) (I (tab (cycles r).length (fun j => if j < i then j else 0))) ((cycles r).length : Int) (i : Int) (I r) (I u)) (outG (cycles r) G (cycles r).length (cycles r).length, true) := by
    intro d
    induction d with
    | zero =>
      intro i hi
      obtain rfl : i = (cycles r).length := by omega
      refine ev_succ ?_
      have c1 : ¬ (((cycles r).length : Int) < ((cycles r).length : Int)) := by omega
      have e : tab (cycles r).length (fun j => if j < (cycles r).length then j else 0) = tab (cycles r).length (fun j => j) := tab_ext (fun q hq => by rw [if_pos hq])
      simp only [impl_CylindersOf.l0, c1, e, if_false, I2_len]
      exact h3
    | succ d ih =>
      intro i hi
      refine ev_succ ?_
      have c1 : (i : Int) < ((cycles r).length : Int) := by omega
      have c2 : (0 : Int) ≤ (i : Int) := by omega
      have c3 : (i : Int) < ((I (tab (cycles r).length (fun j => if j < i then j else 0))).length : Int) := by rw [I_len, tab_len]; exact c1
      have c7 : ((i : Int)).toNat = i := rfl
      have e1 : (I (tab (cycles r).length (fun j => if j < i then j else 0))).set i (i : Int) = I (tab (cycles r).length (fun j => if j < i + 1 then j else 0)) := by
        rw [tab_set]
        congr 1
        refine tab_ext (fun q hq => ?_)
        by_cases h1 : q = i
        · subst h1
          rw [if_pos rfl, if_pos (by omega)]
        · rw [if_neg h1]
          by_cases h2 : q < i
          · rw [if_pos h2, if_pos (by omega)]
          · rw [if_neg h2, if_neg (by omega)]
      have c5 := w64s i (by omega)
      simp only [impl_CylindersOf.l0, c1, c2, c3, c5, c7, e1, if_true]
      exact ih (i + 1) (by omega)
  have e0 : (List.replicate (cycles r).length 0 : List Int) = I (tab (cycles r).length (fun j => if j < 0 then j else 0)) := by
    unfold I tab
    rw [List.map_map]
    apply List.ext_getElem
    · simp
    · intro k h1 h2
      simp
  rw [e0]
  exact L0 (cycles r).length 0 (by omega)
end Go.Proofs.Ytbdnellgioimbaa.M
end
section
/- The cylinders: the reference. No conditions. -/
namespace Go.Proofs.Ytbdnellgioimbaa.M
set_option linter.unusedVariables false
set_option linter.unusedSimpArgs false
open Go.RowKit Go.Proofs.YtbdnellgioimbaaW.PrintWords Go.Proofs.YtbdnellgioimbaaW.PrintLast Go.Proofs.YtbdnellgioimbaaW.PrintMore Go.Proofs.Ytbdnellgioimbaa.A
theorem upA_rd {A : List Int} {i j : Nat} (h : upA A i = some j) : rd A (i : Int) = (j : Int) ∧ i < A.length := by
  unfold upA at h
  split at h
  · rename_i hc
    injection h with h
    exact ⟨by omega, hc.1⟩
  · cases h
theorem upA_neg {A : List Int} {i : Nat} (hi : i < A.length) (h : upA A i = none) : rd A (i : Int) < 0 := by
  unfold upA at h
  split at h
  · cases h
  · rename_i hc
    have : ¬ 0 ≤ rd A (i : Int) := fun h2 => hc ⟨hi, h2⟩
    omega
theorem joined_ev {A : List Int} {n : Nat} (hn : A.length = n) (h24 : n ≤ 24) (hup : ∀ i j, upA A i = some j → i < n ∧ j < n) {f t : Nat} (hf : f < n) : ∃ b, Ev (fun k => spec_l08Joined.f k A (f : Int) (t : Int)) b ∧ (b = true ↔ ∃ m, ups (upA A) m f = some t) := by
  have H : ∀ d i c : Nat, i + d = n + 1 → c < n → ups (upA A) i f = some c → (∀ m, m < i → ups (upA A) m f ≠ some t) → ∃ b, Ev (fun k => spec_l08Joined.l0 k A (t : Int) (c : Int) (i : Int)) b ∧ (b = true ↔ ∃ m, m < n + 1 ∧ ups (upA A) m f = some t) := by
    intro d
    induction d with
    | zero =>
      intro i c hi hc h0 hno
      refine ⟨false, ev_succ ?_, ?_⟩
      · have c1 : ¬ ((i : Int) ≤ (A.length : Int)) := by omega
        simp only [spec_l08Joined.l0, c1, if_false]
        refine ev_succ ?_
        simp only [spec_l08Joined.j1, Bool.false_eq_true, if_false]
        exact Ev.now _
      · constructor
        · intro h; cases h
        · rintro ⟨m, hm, h⟩
          exact absurd h (hno m (by omega))
    | succ d ih =>
      intro i c hi hc h0 hno
      have c1 : (i : Int) ≤ (A.length : Int) := by omega
      have c2 : decide ((c : Int) ≥ 0) = true := decide_eq_true (by omega)
      have c3 : (0 : Int) ≤ (c : Int) := by omega
      have c4 : (c : Int) < (A.length : Int) := by omega
      by_cases e : c = t
      · have e' : (c : Int) = (t : Int) := by omega
        refine ⟨true, ev_succ ?_, ?_⟩
        · simp only [spec_l08Joined.l0, c1, c2, if_true]
          refine ev_succ ?_
          simp only [spec_l08Joined.j1, e', if_true]
          exact Ev.now _
        · exact ⟨fun _ => ⟨i, by omega, by rw [h0, e]⟩, fun _ => rfl⟩
      · have e' : ¬ ((c : Int) = (t : Int)) := by omega
        have hno' : ∀ m, m < i + 1 → ups (upA A) m f ≠ some t := by
          intro m hm
          by_cases h2 : m = i
          · rw [h2, h0]
            intro h3
            injection h3 with h3
            exact e h3
          · exact hno m (by omega)
        cases hu : upA A c with
        | some c' =>
          obtain ⟨hrd, _⟩ := upA_rd hu
          have hc' := (hup _ _ hu).2
          obtain ⟨b, i1, i2⟩ := ih (i + 1) c' (by omega) hc' (by rw [ups_succ, h0]; exact hu) hno'
          refine ⟨b, ev_succ ?_, i2⟩
          have c5 := w64s i (by omega)
          simp only [spec_l08Joined.l0, c1, c2, if_true]
          refine ev_succ ?_
          simp only [spec_l08Joined.j1, e', c3, c4, c5, hrd, if_true, if_false]
          exact i1
        | none =>
          have hneg := upA_neg (by omega) hu
          have hnone : ∀ m, i < m → ups (upA A) m f ≠ some t := by
            intro m hm
            obtain ⟨x, rfl⟩ : ∃ x, m = (i + 1) + x := ⟨m - (i + 1), by omega⟩
            rw [ups_add, ups_succ, h0]
            simp [hu]
          generalize hv : rd A (c : Int) = v at hneg
          have c6 : decide (v ≥ 0) = false := decide_eq_false (by omega)
          refine ⟨false, ev_succ ?_, ?_⟩
          · have c5 := w64s i (by omega)
            simp only [spec_l08Joined.l0, c1, c2, if_true]
            refine ev_succ ?_
            simp only [spec_l08Joined.j1, e', c3, c4, c5, hv, if_true, if_false]
            refine ev_succ ?_
            simp only [spec_l08Joined.l0, c6, ite_self]
            refine ev_succ ?_
            simp only [spec_l08Joined.j1, Bool.false_eq_true, if_false]
            exact Ev.now _
          · constructor
            · intro h; cases h
            · rintro ⟨m, _, h⟩
              by_cases h2 : m < i + 1
              · exact absurd h (hno' m h2)
              · exact absurd h (hnone m (by omega))
  obtain ⟨b, i1, i2⟩ := H (n + 1) 0 f (by omega) hf rfl (fun m hm => by omega)
  refine ⟨b, i1, ?_⟩
  rw [i2]
  constructor
  · rintro ⟨m, _, h⟩
    exact ⟨m, h⟩
  · intro h
    obtain ⟨m, h1, h2⟩ := ups_few hup hf h
    exact ⟨m, by omega, h2⟩
def slG (G : Nat → Nat) (n i : Nat) (add : List Nat) : List Bool := (List.range n).map (fun q => decide (G q < i ∨ q ∈ add))
theorem slG_len (G : Nat → Nat) (n i : Nat) (add : List Nat) : (slG G n i add).length = n := by simp [slG]
theorem slG_at {G : Nat → Nat} {n i : Nat} {add : List Nat} {q : Nat} (h : q < n) : rdOf false (slG G n i add) (q : Int) = decide (G q < i ∨ q ∈ add) := by
  unfold rdOf slG
  rw [List.getD_eq_getElem?_getD, List.getElem?_map]
  have : ((q : Int)).toNat = q := rfl
  rw [this, List.getElem?_range h]
  rfl
theorem slG_set {G : Nat → Nat} {n i : Nat} {add : List Nat} {q : Nat} : (slG G n i add).set q true = slG G n i (add ++ [q]) := by
  unfold slG
  apply List.ext_getElem
  · simp
  · intro k h1 h2
    simp only [List.getElem_set, List.getElem_map, List.getElem_range]
    by_cases e : q = k
    · subst e
      simp
    · rw [if_neg e]
      congr 1
      have : k ≠ q := fun h => e h.symm
      simp [this]
end Go.Proofs.Ytbdnellgioimbaa.M
end
section
/- The cylinders: the reference marks a class. No conditions. -/
namespace Go.Proofs.Ytbdnellgioimbaa.M
set_option linter.unusedVariables false
set_option linter.unusedSimpArgs false
open Go.RowKit Go.Proofs.YtbdnellgioimbaaW.PrintWords Go.Proofs.YtbdnellgioimbaaW.PrintLast Go.Proofs.YtbdnellgioimbaaW.PrintMore Go.Proofs.Ytbdnellgioimbaa.A
def S0L (G : Nat → Nat) (n i : Nat) : List Nat := (List.range n).filter (fun q => decide (G q < i))
theorem mem_S0 {G : Nat → Nat} {n i x : Nat} : x ∈ S0L G n i ↔ x < n ∧ G x < i := by simp [S0L]
theorem Mk.len {n : Nat} {up : Nat → Option Nat} {row : Nat} {S0 add : List Nat} (h : Mk n up row S0 add) : add.length ≤ n := by
  have := nodup_sub_len add (List.range n) h.nd (fun x hx => List.mem_range.mpr (h.lt x hx))
  rw [List.length_range] at this
  exact this
theorem seen_iff {G : Nat → Nat} {n i x : Nat} {add : List Nat} (hx : x < n) : (G x < i ∨ x ∈ add) ↔ (x ∈ S0L G n i ∨ x ∈ add) := by
  rw [mem_S0]
  constructor
  · rintro (h | h)
    · exact Or.inl ⟨hx, h⟩
    · exact Or.inr h
  · rintro (h | h)
    · exact Or.inl h.2
    · exact Or.inr h
def C1P (up : Nat → Option Nat) (S0 add : List Nat) : Prop := ∀ x ∈ add, ∀ y, up x = some y → y ∈ S0 ∨ y ∈ add
def C2P (up : Nat → Option Nat) (i : Nat) (S0 add : List Nat) (k : Nat) : Prop := ∀ x, up k = some x → (x ∈ S0 ∨ x ∈ add) → (∃ m, ups up m k = some i) → (k ∈ S0 ∨ k ∈ add)
theorem C1P.add {up : Nat → Option Nat} {S0 add : List Nat} (h : C1P up S0 add) {k x : Nat} (e : up k = some x) (hx : x ∈ S0 ∨ x ∈ add) : C1P up S0 (add ++ [k]) := by
  intro z hz y hy
  rcases List.mem_append.mp hz with hz | hz
  · rcases h z hz y hy with h2 | h2
    · exact Or.inl h2
    · exact Or.inr (List.mem_append.mpr (Or.inl h2))
  · have : z = k := by simpa using hz
    rw [this, e] at hy
    injection hy with hy
    rw [← hy]
    rcases hx with hx | hx
    · exact Or.inl hx
    · exact Or.inr (List.mem_append.mpr (Or.inl hx))
theorem pass {A : List Int} {n : Nat} (hn : A.length = n) (h24 : n ≤ 24) (hup : ∀ i j, upA A i = some j → i < n ∧ j < n) {G : Nat → Nat} {i : Nat} (hi : i < n) (add : List Nat) (hM : Mk n (upA A) i (S0L G n i) add) (hm : i ∈ add) (hC : C1P (upA A) (S0L G n i) add)
    (ih : ∀ add1, Mk n (upA A) i (S0L G n i) add1 → i ∈ add1 → C1P (upA A) (S0L G n i) add1 → add.length < add1.length → ∃ add', Mk n (upA A) i (S0L G n i) add' ∧ i ∈ add' ∧ C1P (upA A) (S0L G n i) add' ∧ (∀ k, k < n → C2P (upA A) i (S0L G n i) add' k) ∧ Ev (fun k => spec_l08Mark.l1 k A (i : Int) (slG G n i add1) (add1.length : Int) true) ((add'.length : Int), slG G n i add')) :
    ∃ add', Mk n (upA A) i (S0L G n i) add' ∧ i ∈ add' ∧ C1P (upA A) (S0L G n i) add' ∧ (∀ k, k < n → C2P (upA A) i (S0L G n i) add' k) ∧ Ev (fun k => spec_l08Mark.l1 k A (i : Int) (slG G n i add) (add.length : Int) true) ((add'.length : Int), slG G n i add') := by
  have L : ∀ (e j : Nat) (add1 : List Nat) (fl : Bool), j + e = n → Mk n (upA A) i (S0L G n i) add1 → i ∈ add1 → C1P (upA A) (S0L G n i) add1 → (fl = true → add.length < add1.length) → (fl = false → add1 = add ∧ ∀ k, k < j → C2P (upA A) i (S0L G n i) add k) →
      ∃ add', Mk n (upA A) i (S0L G n i) add' ∧ i ∈ add' ∧ C1P (upA A) (S0L G n i) add' ∧ (∀ k, k < n → C2P (upA A) i (S0L G n i) add' k) ∧ Ev (fun k => spec_l08Mark.l2 k A (i : Int) (slG G n i add1) (add1.length : Int) fl A (n : Int) (j : Int)) ((add'.length : Int), slG G n i add') := by
    intro e
    induction e with
    | zero =>
      intro j add1 fl hj hM1 hm1 hC1 ht hf
      obtain rfl : j = n := by omega
      have c1 : ¬ ((j : Int) < (j : Int)) := by omega
      cases fl with
      | true =>
        obtain ⟨add', a1, a2, a3, a4, a5⟩ := ih add1 hM1 hm1 hC1 (ht rfl)
        refine ⟨add', a1, a2, a3, a4, ev_succ ?_⟩
        simp only [spec_l08Mark.l2, c1, if_false]
        exact a5
      | false =>
        obtain ⟨rfl, h2⟩ := hf rfl
        refine ⟨add1, hM1, hm1, hC1, h2, ev_succ ?_⟩
        simp only [spec_l08Mark.l2, c1, if_false]
        refine ev_succ ?_
        simp only [spec_l08Mark.l1, Bool.false_eq_true, if_false]
        exact Ev.now _
    | succ e ihe =>
      intro j add1 fl hj hM1 hm1 hC1 ht hf
      have hjn : j < n := by omega
      have c1 : (j : Int) < (n : Int) := by omega
      have c2 : (0 : Int) ≤ (j : Int) := by omega
      have c3 : (j : Int) < (A.length : Int) := by omega
      have c3' : (j : Int) < ((slG G n i add1).length : Int) := by rw [slG_len]; exact c1
      have nx : (fl = false → C2P (upA A) i (S0L G n i) add j) → ∃ add', Mk n (upA A) i (S0L G n i) add' ∧ i ∈ add' ∧ C1P (upA A) (S0L G n i) add' ∧ (∀ k, k < n → C2P (upA A) i (S0L G n i) add' k) ∧ Ev (fun k => spec_l08Mark.l2 k A (i : Int) (slG G n i add1) (add1.length : Int) fl A (n : Int) ((j + 1 : Nat) : Int)) ((add'.length : Int), slG G n i add') := fun h =>
        ihe (j + 1) add1 fl (by omega) hM1 hm1 hC1 ht (fun hfl => ⟨(hf hfl).1, fun k hk => by
          by_cases hkj : k = j
          · rw [hkj]; exact h hfl
          · exact (hf hfl).2 k (by omega)⟩)
      cases hu : upA A j with
      | none =>
        have hneg := upA_neg (by omega) hu
        obtain ⟨add', a1, a2, a3, a4, a5⟩ := nx (fun _ x hx => by rw [hu] at hx; cases hx)
        refine ⟨add', a1, a2, a3, a4, ev_succ ?_⟩
        have c4 : ¬ (rd A (j : Int) ≥ 0) := by omega
        have c5 := w64s j (by omega)
        simp only [spec_l08Mark.l2, c1, c2, c3, c4, c5, if_true, if_false]
        exact a5
      | some x =>
        obtain ⟨hrd, _⟩ := upA_rd hu
        have hx := (hup _ _ hu).2
        have d1 : ((x : Nat) : Int) ≥ 0 := by omega
        have d2 : (0 : Int) ≤ ((x : Nat) : Int) := by omega
        have d3 : ((x : Nat) : Int) < ((slG G n i add1).length : Int) := by rw [slG_len]; omega
        have d4 := slG_at (G := G) (i := i) (add := add1) hx
        have d5 := slG_at (G := G) (i := i) (add := add1) hjn
        by_cases hsx : G x < i ∨ x ∈ add1
        · rw [decide_eq_true hsx] at d4
          by_cases hsj : G j < i ∨ j ∈ add1
          · rw [decide_eq_true hsj] at d5
            obtain ⟨add', a1, a2, a3, a4, a5⟩ := nx (fun hfl _ _ _ _ => by rw [← (hf hfl).1]; exact (seen_iff hjn).mp hsj)
            refine ⟨add', a1, a2, a3, a4, ev_succ ?_⟩
            have c5 := w64s j (by omega)
            simp only [spec_l08Mark.l2, c1, c2, c3, c3', c5, hrd, d1, d2, d3, d4, d5, if_true]
            exact a5
          · rw [decide_eq_false hsj] at d5
            obtain ⟨b, b1, b2⟩ := joined_ev hn h24 hup (t := i) hjn
            cases b with
            | true =>
              have hp := b2.mp rfl
              have hM2 := hM1.add hjn (fun h => hsj (Or.inl (mem_S0.mp h).2)) (fun h => hsj (Or.inr h)) (Or.inr hp)
              have hl2 : (add1 ++ [j]).length = add1.length + 1 := by simp
              have hle : add.length ≤ add1.length := by
                cases fl with
                | true => exact Nat.le_of_lt (ht rfl)
                | false => rw [(hf rfl).1]; exact Nat.le_refl _
              obtain ⟨add', a1, a2, a3, a4, a5⟩ := ihe (j + 1) (add1 ++ [j]) true (by omega) hM2 (List.mem_append.mpr (Or.inl hm1)) (hC1.add hu ((seen_iff hx).mp hsx)) (fun _ => by omega) (fun h => by cases h)
              refine ⟨add', a1, a2, a3, a4, ev_succ ?_⟩
              have hlen := hM1.len
              have c8 : ((j : Int)).toNat = j := rfl
              have e1 : ((add1 ++ [j]).length : Int) = ((add1.length + 1 : Nat) : Int) := by rw [hl2]
              rw [e1] at a5
              have c6 := w64s add1.length (by omega)
              have c5 := w64s j (Nat.le_trans (Nat.le_of_lt hjn) (Nat.le_trans h24 (by decide)))
              simp only [spec_l08Mark.l2, c1, c2, c3, c3', hrd, d1, d2, d3, d4, d5, if_true, Bool.false_eq_true, if_false]
              refine Ev.bind b1 ?_
              simp only [c5, c6, c8, slG_set, if_true]
              exact a5
            | false =>
              obtain ⟨add', a1, a2, a3, a4, a5⟩ := nx (fun hfl _ _ _ hp => by have := b2.mpr hp; cases this)
              refine ⟨add', a1, a2, a3, a4, ev_succ ?_⟩
              have c5 := w64s j (by omega)
              simp only [spec_l08Mark.l2, c1, c2, c3, c3', hrd, d1, d2, d3, d4, d5, if_true, Bool.false_eq_true, if_false]
              refine Ev.bind b1 ?_
              simp only [c5, Bool.false_eq_true, if_false]
              exact a5
        · rw [decide_eq_false hsx] at d4
          obtain ⟨add', a1, a2, a3, a4, a5⟩ := nx (fun hfl y hy hs _ => by
            rw [hu] at hy
            injection hy with hy
            rw [← hy, ← (hf hfl).1] at hs
            exact absurd ((seen_iff hx).mpr hs) hsx)
          refine ⟨add', a1, a2, a3, a4, ev_succ ?_⟩
          have c5 := w64s j (by omega)
          simp only [spec_l08Mark.l2, c1, c2, c3, c5, hrd, d1, d2, d3, d4, if_true, Bool.false_eq_true, if_false]
          exact a5
  obtain ⟨add', a1, a2, a3, a4, a5⟩ := L n 0 add false (Nat.zero_add n) hM hm hC (fun h => by cases h) (fun _ => ⟨rfl, fun k hk => by omega⟩)
  refine ⟨add', a1, a2, a3, a4, ev_succ ?_⟩
  simp only [spec_l08Mark.l1, hn, if_true]
  exact a5
theorem mark2 {A : List Int} {n : Nat} (hn : A.length = n) (h24 : n ≤ 24) (hup : ∀ i j, upA A i = some j → i < n ∧ j < n) {G : Nat → Nat} {i : Nat} (hi : i < n) :
    ∀ (d : Nat) (add : List Nat), n ≤ add.length + d → Mk n (upA A) i (S0L G n i) add → i ∈ add → C1P (upA A) (S0L G n i) add →
      ∃ add', Mk n (upA A) i (S0L G n i) add' ∧ i ∈ add' ∧ C1P (upA A) (S0L G n i) add' ∧ (∀ k, k < n → C2P (upA A) i (S0L G n i) add' k) ∧ Ev (fun k => spec_l08Mark.l1 k A (i : Int) (slG G n i add) (add.length : Int) true) ((add'.length : Int), slG G n i add') := by
  intro d
  induction d with
  | zero =>
    intro add hd hM hm hC
    exact pass hn h24 hup hi add hM hm hC (fun add1 hM1 _ _ hl => by have := hM1.len; omega)
  | succ d ih =>
    intro add hd hM hm hC
    exact pass hn h24 hup hi add hM hm hC (fun add1 hM1 hm1 hC1 hl => ih add1 (by omega) hM1 hm1 hC1)
end Go.Proofs.Ytbdnellgioimbaa.M
end
section
namespace Go.Proofs.Ytbdnellgioimbaa.A
open Go.RowKit Go.Proofs.YtbdnellgioimbaaW.PrintWords Go.Proofs.YtbdnellgioimbaaW.PrintLast Go.Proofs.YtbdnellgioimbaaW.PrintMore
attribute [local go_sem] max2_int min2_int max_two min_two max_three min_three max_four min_four
set_option linter.unusedVariables false
set_option linter.unusedSimpArgs false
def spec_CylindersOf.f (k : Nat) (l0_0 : List Int) (l0_1 : List Int) : Option ((List (S44)) × Bool) := (spec_SurfaceOk.f k l0_0 l0_1).bind fun t618 => (if t618 = true then ((spec_l08Cylinders.f k l0_0 l0_1).bind fun t619 => (some (t619, true))) else (some (([] : List (S44)), false)))
theorem spec_CylindersOf.mono : ∀ a0 a1 k, LeO (spec_CylindersOf.f k a0 a1) (spec_CylindersOf.f (k + 1) a0 a1) := by
  intro a0 a1 k
  unfold spec_CylindersOf.f
  repeat' first|exact spec_SurfaceOk.mono _ _ _|exact spec_l08Cylinders.mono _ _ _|exact lo_|refine LeO.ite ?_ ?_|refine LeO.bind ?_ (fun _ => ?_)
set_option maxHeartbeats 8000000 in
set_option maxRecDepth 100000 in
theorem spec_CylindersOf.calls (k : Nat) (A0_0 : Option Addr) (c0_0 : Nat) (l0_0 : List Int) (A0_1 : Option Addr) (c0_1 : Nat) (l0_1 : List Int) (r1 : List (S44)) (r2 : Bool) (w : World) (hr0_0 : Kd.C (Kd.int .i64) w A0_0 l0_0.length l0_0) (hc0_0 : l0_0.length ≤ c0_0) (hr0_1 : Kd.C (Kd.int .i64) w A0_1 l0_1.length l0_1) (hc0_1 : l0_1.length ≤ c0_1) (h : spec_CylindersOf.f k l0_0 l0_1 = some (r1, r2)) :
    Calls Try.prog 19 #[.agg #[.slice A0_0 l0_0.length c0_0, .slice A0_1 l0_1.length c0_1]] w fun e w' => ∃ v0_ : Value, e = .returned (.tuple #[v0_, .bool r2]) ∧ Kd.R k44 44 w' w.heap.size (fun _ => True) v0_ r1 ∧ Below w.heap.size w w' := by
  have hu27 := Try.underlying27
  have HR0_0 := Aside0.mk hr0_0
  have HC0_0 := Aside0.mk hc0_0
  clear hr0_0 hc0_0
  have HR0_1 := Aside0.mk hr0_1
  have HC0_1 := Aside0.mk hc0_1
  clear hr0_1 hc0_1
  have HB := Aside0.mk (Below.refl w.heap.size w)
  have H := h
  unfold spec_CylindersOf.f at H
  clear h
  obtain ⟨t618, A2, H⟩ := bi_ H
  by_cases c3 : t618 = true
  · subst c3
    rw [if_pos rfl] at H
    obtain ⟨t619, A4, H⟩ := bi_ H
    simp only [Option.some.injEq, Prod.mk.injEq] at H
    obtain ⟨rfl, rfl⟩ := H
    go_enter Try.func19, Try.ntmps19
    go_wp2_with (first | ((with_reducible refine gate_dst (N := 1) rfl ?_); refine bx_ 1 #[.slice A0_0 l0_0.length c0_0, .slice A0_1 l0_1.length c0_1] 27 ?_; intro gb617 hg w5 hbox hb; have BK617 := Aside0.mk hbox; have GW617 := gw_ w hg; have GE617 := GW617; replace HB := b1_ hb; clear hb hbox hg; obtain ⟨hcz6_0, hcz6_1, hfz6_0, hfz6_1⟩ := c2_ BK617) | ((with_reducible refine gate_callee (f := 63) rfl ?_); refine gL_ (some 5) Try.func63 #[.agg #[.slice A0_0 l0_0.length c0_0, .slice A0_1 l0_1.length c0_1]] rfl qa_ ?_; (with_reducible refine (spec_SurfaceOk.calls k _ _ l0_0 _ _ l0_1 true _ (cb_ HR0_0) HC0_0.out (cb_ HR0_1) HC0_1.out A2.out).mono ?_); rintro e w7 ⟨rfl, hb⟩; refine ⟨_, rfl, ?_⟩; replace BK617 := bb_ BK617 hb; replace HB := b1_ hb; clear hb; obtain ⟨hcz8_0, hcz8_1, hfz8_0, hfz8_1⟩ := c2_ BK617) | ((with_reducible refine gate_callee (f := 64) rfl ?_); refine gL_ (some 8) Try.func64 #[.agg #[.slice A0_0 l0_0.length c0_0, .slice A0_1 l0_1.length c0_1]] rfl qa_ ?_; (with_reducible refine (spec_l08Cylinders.calls k _ _ l0_0 _ _ l0_1 t619 _ (cb_ HR0_0) HC0_0.out (cb_ HR0_1) HC0_1.out A4.out).mono ?_); rintro e w9 ⟨v620, rfl, ho0, hb⟩; refine ⟨_, rfl, ?_⟩; have HO621 := rl_ w ho0; replace BK617 := bb_ BK617 hb; replace HB := b1_ hb; clear hb ho0))
    go_ret2
    exact ⟨_, qb_, (rr_ HO621), hB_⟩
  · replace c3 := Bool.eq_false_iff.mpr c3
    subst c3
    have H1 : (some (([] : List (S44)), false)) = some (r1, r2) := by rw [if_neg (show ¬ (false = true) by decide)] at H; exact H
    clear H
    have H := H1
    clear H1
    simp only [Option.some.injEq, Prod.mk.injEq] at H
    obtain ⟨rfl, rfl⟩ := H
    go_enter Try.func19, Try.ntmps19
    go_wp2_with (first | ((with_reducible refine gate_dst (N := 1) rfl ?_); refine bx_ 1 #[.slice A0_0 l0_0.length c0_0, .slice A0_1 l0_1.length c0_1] 27 ?_; intro gb617 hg w10 hbox hb; have BK617 := Aside0.mk hbox; have GW617 := gw_ w hg; have GE617 := GW617; replace HB := b1_ hb; clear hb hbox hg; obtain ⟨hcz11_0, hcz11_1, hfz11_0, hfz11_1⟩ := c2_ BK617) | ((with_reducible refine gate_callee (f := 63) rfl ?_); refine gL_ (some 5) Try.func63 #[.agg #[.slice A0_0 l0_0.length c0_0, .slice A0_1 l0_1.length c0_1]] rfl qa_ ?_; (with_reducible refine (spec_SurfaceOk.calls k _ _ l0_0 _ _ l0_1 false _ (cb_ HR0_0) HC0_0.out (cb_ HR0_1) HC0_1.out A2.out).mono ?_); rintro e w12 ⟨rfl, hb⟩; refine ⟨_, rfl, ?_⟩; replace BK617 := bb_ BK617 hb; replace HB := b1_ hb; clear hb))
    go_ret2
    exact ⟨_, qb_, by first | exact Kd.R_nil _ _ _ _ _ | exact Kd.N_nil _ _ _ _ _ | exact Kd.V_nil _ _ _ _ _ | exact Kd.Q_nil _ _ _ _ _ | exact Kd.S_nil _ _ _ _ _, hB_⟩
end Go.Proofs.Ytbdnellgioimbaa.A
end
section
/- The cylinders: what the reference comes to. No conditions. -/
namespace Go.Proofs.Ytbdnellgioimbaa.M
set_option linter.unusedVariables false
set_option linter.unusedSimpArgs false
open Go.RowKit Go.Proofs.YtbdnellgioimbaaW.PrintWords Go.Proofs.YtbdnellgioimbaaW.PrintLast Go.Proofs.YtbdnellgioimbaaW.PrintMore Go.Proofs.Ytbdnellgioimbaa.A
theorem mark1 {A : List Int} {n : Nat} (hn : A.length = n) (h24 : n ≤ 24) (hup : ∀ i j, upA A i = some j → i < n ∧ j < n) {G : Nat → Nat} {i : Nat} (hi : i < n) (hGi : ¬ G i < i) :
    ∀ (d : Nat) (add : List Nat) (v : Int), n ≤ add.length + d → Mk n (upA A) i (S0L G n i) add → (∀ x ∈ add, ∀ y, upA A x = some y → y ∈ S0L G n i ∨ y ∈ add ∨ v = (y : Int)) → (add = [] ∧ v = (i : Int) ∨ i ∈ add) → (v < 0 ∨ ∃ c : Nat, v = (c : Int) ∧ c < n ∧ ∃ m, ups (upA A) m i = some c) →
      ∃ add', Mk n (upA A) i (S0L G n i) add' ∧ i ∈ add' ∧ C1P (upA A) (S0L G n i) add' ∧ (∀ k, k < n → C2P (upA A) i (S0L G n i) add' k) ∧ Ev (fun k => spec_l08Mark.l0 k A (i : Int) (slG G n i add) (add.length : Int) v) ((add'.length : Int), slG G n i add') := by
  intro d
  induction d with
  | zero =>
    intro add v hd hM hC hm hv
    by_cases hv0 : v < 0
    · have hm' : i ∈ add := by rcases hm with ⟨_, h⟩ | h; omega; exact h
      obtain ⟨add', a1, a2, a3, a4, a5⟩ := mark2 hn h24 hup hi n add (by omega) hM hm' (fun x hx y hy => by rcases hC x hx y hy with h | h | h; exact Or.inl h; exact Or.inr h; omega)
      refine ⟨add', a1, a2, a3, a4, ev_succ ?_⟩
      have c1 : ¬ (v ≥ 0) := by omega
      simp only [spec_l08Mark.l0, c1, if_false]
      refine ev_succ ?_
      simp only [spec_l08Mark.j1]
      exact a5
    · obtain ⟨c, rfl, hc, hp⟩ : ∃ c : Nat, v = (c : Int) ∧ c < n ∧ ∃ m, ups (upA A) m i = some c := by rcases hv with h | h; omega; exact h
      by_cases hs : G c < i ∨ c ∈ add
      · have hm' : i ∈ add := by
          rcases hm with ⟨h1, h⟩ | h
          · have : c = i := by omega
            rw [this, h1] at hs
            rcases hs with h2 | h2
            · exact absurd h2 hGi
            · simp at h2
          · exact h
        obtain ⟨add', a1, a2, a3, a4, a5⟩ := mark2 hn h24 hup hi n add (by omega) hM hm' (fun x hx y hy => by
          rcases hC x hx y hy with h | h | h
          · exact Or.inl h
          · exact Or.inr h
          · have : y = c := by omega
            rw [this]
            exact (seen_iff hc).mp hs)
        refine ⟨add', a1, a2, a3, a4, ev_succ ?_⟩
        have c1 : (c : Int) ≥ 0 := by omega
        have c2 : (0 : Int) ≤ (c : Int) := by omega
        have c3 : (c : Int) < ((slG G n i add).length : Int) := by rw [slG_len]; omega
        have c4 := slG_at (G := G) (i := i) (add := add) hc
        rw [decide_eq_true hs] at c4
        simp only [spec_l08Mark.l0, c1, c2, c3, c4, if_true]
        refine ev_succ ?_
        simp only [spec_l08Mark.j1]
        exact a5
      · have := (hM.add hc (fun h => hs (Or.inl (mem_S0.mp h).2)) (fun h => hs (Or.inr h)) (Or.inl hp)).len
        rw [List.length_append] at this
        simp at this
        omega
  | succ d ih =>
    intro add v hd hM hC hm hv
    by_cases hv0 : v < 0
    · have hm' : i ∈ add := by rcases hm with ⟨_, h⟩ | h; omega; exact h
      obtain ⟨add', a1, a2, a3, a4, a5⟩ := mark2 hn h24 hup hi n add (by omega) hM hm' (fun x hx y hy => by rcases hC x hx y hy with h | h | h; exact Or.inl h; exact Or.inr h; omega)
      refine ⟨add', a1, a2, a3, a4, ev_succ ?_⟩
      have c1 : ¬ (v ≥ 0) := by omega
      simp only [spec_l08Mark.l0, c1, if_false]
      refine ev_succ ?_
      simp only [spec_l08Mark.j1]
      exact a5
    · obtain ⟨c, rfl, hc, hp⟩ : ∃ c : Nat, v = (c : Int) ∧ c < n ∧ ∃ m, ups (upA A) m i = some c := by rcases hv with h | h; omega; exact h
      have c1 : (c : Int) ≥ 0 := by omega
      have c2 : (0 : Int) ≤ (c : Int) := by omega
      have c3 : (c : Int) < ((slG G n i add).length : Int) := by rw [slG_len]; omega
      have c4 := slG_at (G := G) (i := i) (add := add) hc
      by_cases hs : G c < i ∨ c ∈ add
      · have hm' : i ∈ add := by
          rcases hm with ⟨h1, h⟩ | h
          · have : c = i := by omega
            rw [this, h1] at hs
            rcases hs with h2 | h2
            · exact absurd h2 hGi
            · simp at h2
          · exact h
        obtain ⟨add', a1, a2, a3, a4, a5⟩ := mark2 hn h24 hup hi n add (by omega) hM hm' (fun x hx y hy => by
          rcases hC x hx y hy with h | h | h
          · exact Or.inl h
          · exact Or.inr h
          · have : y = c := by omega
            rw [this]
            exact (seen_iff hc).mp hs)
        refine ⟨add', a1, a2, a3, a4, ev_succ ?_⟩
        rw [decide_eq_true hs] at c4
        simp only [spec_l08Mark.l0, c1, c2, c3, c4, if_true]
        refine ev_succ ?_
        simp only [spec_l08Mark.j1]
        exact a5
      · rw [decide_eq_false hs] at c4
        have hM2 := hM.add hc (fun h => hs (Or.inl (mem_S0.mp h).2)) (fun h => hs (Or.inr h)) (Or.inl hp)
        have hl2 : (add ++ [c]).length = add.length + 1 := by simp
        have hlen := hM.len
        have hA : c < A.length := by omega
        have c5 : (c : Int) < (A.length : Int) := by omega
        have c8 : ((c : Int)).toNat = c := rfl
        have hcm : c ∈ add ++ [c] := by simp
        have hi' : i ∈ add ++ [c] := by
          rcases hm with ⟨h1, h⟩ | h
          · have : c = i := by omega
            rw [this]; simp
          · exact List.mem_append.mpr (Or.inl h)
        obtain ⟨add', a1, a2, a3, a4, a5⟩ := ih (add ++ [c]) (rd A (c : Int)) (by omega) hM2 (fun x hx y hy => by
          rcases List.mem_append.mp hx with h | h
          · rcases hC x h y hy with h2 | h2 | h2
            · exact Or.inl h2
            · exact Or.inr (Or.inl (List.mem_append.mpr (Or.inl h2)))
            · have : y = c := by omega
              rw [this]
              exact Or.inr (Or.inl hcm)
          · have : x = c := by simpa using h
            rw [this] at hy
            exact Or.inr (Or.inr (upA_rd hy).1)) (Or.inr hi') (by
          cases hu : upA A c with
          | none => exact Or.inl (upA_neg hA hu)
          | some y =>
            obtain ⟨m, hm2⟩ := hp
            exact Or.inr ⟨y, (upA_rd hu).1, (hup _ _ hu).2, m + 1, by rw [ups_succ, hm2]; exact hu⟩)
        refine ⟨add', a1, a2, a3, a4, ev_succ ?_⟩
        have e1 : ((add ++ [c]).length : Int) = ((add.length + 1 : Nat) : Int) := by rw [hl2]
        rw [e1] at a5
        have c6 := w64s add.length (by omega)
        simp only [spec_l08Mark.l0, c1, c2, c3, c4, c5, c6, c8, slG_set, if_true, Bool.false_eq_true, if_false]
        exact a5
theorem marked_ev {A : List Int} {n : Nat} (hn : A.length = n) (h24 : n ≤ 24) (hup : ∀ i j, upA A i = some j → i < n ∧ j < n) (hinj : ∀ i i' j, upA A i = some j → upA A i' = some j → i = i') {G : Nat → Nat} (hG : Grp n (upA A) n G) {i : Nat} (hi : i < n) (hGi : G i = i) :
    Ev (fun k => spec_l08Mark.f k A (i : Int) (slG G n i [])) (((cntG G n i : Nat) : Int), slG G n (i + 1) []) := by
  obtain ⟨add, a1, a2, a3, a4, a5⟩ := mark1 hn h24 hup hi (by omega : ¬ G i < i) n [] (i : Int) (by simp) ⟨List.nodup_nil, by simp, by simp, by simp⟩ (by simp) (Or.inl ⟨rfl, rfl⟩) (Or.inr ⟨i, rfl, hi, 0, rfl⟩)
  have hfull := a1.full hup hinj a2 (fun a b hab => by
    obtain ⟨ha, hb⟩ := hup _ _ hab
    rw [mem_S0, mem_S0, (hG.iff hup ha hb).mpr (Cn.one hab)]
    exact ⟨fun h => ⟨hb, h.2⟩, fun h => ⟨ha, h.2⟩⟩) a3 (fun k x hk hx hp => a4 k (hup _ _ hk).1 x hk hx hp)
  have hcls : ∀ x, x ∈ add ↔ x < n ∧ G x = i := by
    intro x
    constructor
    · intro h
      have hx := a1.lt x h
      have := (hG.iff hup hi hx).mpr ((hfull x).mp h)
      exact ⟨hx, by rw [← this]; exact hGi⟩
    · rintro ⟨hx, h⟩
      exact (hfull x).mpr ((hG.iff hup hi hx).mp (by rw [hGi, h]))
  have e1 : add.length = cntG G n i := by
    unfold cntG
    refine nodup_len_eq a1.nd (List.Pairwise.filter _ List.nodup_range) (fun x => ?_)
    rw [hcls]
    simp
  have e2 : slG G n i add = slG G n (i + 1) [] := by
    unfold slG
    refine List.map_congr_left (fun q hq => ?_)
    have hq' := List.mem_range.mp hq
    congr 1
    rw [hcls]
    simp
    omega
  rw [e1, e2] at a5
  exact a5
theorem spec_cyl {r u : List Nat} (hs : Sf r u) {G : Nat → Nat} (hG : Grp (cycles r).length (upA (abL r u)) (cycles r).length G) : Ev (fun k => spec_CylindersOf.f k (I r) (I u)) (outG (cycles r) G (cycles r).length (cycles r).length, true) := by
  have h24 := cycles_len (p := r) hs.le
  have hn := abL_len r u
  unfold spec_CylindersOf.f
  refine Ev.bind (spec_surf _ _) ?_
  have h0 := surfB_I.mpr hs
  simp only [h0, if_true]
  refine Ev.bind (a := outG (cycles r) G (cycles r).length (cycles r).length) ?_ (Ev.now _)
  unfold spec_l08Cylinders.f
  refine Ev.bind (spec_cycles hs.pr hs.le) (Ev.bind (above_ev hs) ?_)
  have z1 : (0 : Int) ≤ ((cycles r).length : Int) := by omega
  have z2 : (((cycles r).length : Int)).toNat = (cycles r).length := rfl
  have z3 : (cycles r).length ≤ 281474976710656 := by omega
  simp only [I2_len, z1, z2, z3, if_true]
  have H : ∀ d i : Nat, i + d = (cycles r).length → Ev (fun k => spec_l08Cylinders.l0 k (abL r u) (slG G (cycles r).length i []) (outG (cycles r) G (cycles r).length i) (I2 (cycles r)) ((cycles r).length : Int) (i : Int)) (outG (cycles r) G (cycles r).length (cycles r).length) := by
    intro d
    induction d with
    | zero =>
      intro i hi
      obtain rfl : i = (cycles r).length := by omega
      refine ev_succ ?_
      have c1 : ¬ (((cycles r).length : Int) < ((cycles r).length : Int)) := by omega
      simp only [spec_l08Cylinders.l0, c1, if_false]
      exact Ev.now _
    | succ d ih =>
      intro i hi
      have hin : i < (cycles r).length := by omega
      have c1 : (i : Int) < ((cycles r).length : Int) := by omega
      have c2 : (0 : Int) ≤ (i : Int) := by omega
      have c3 : (i : Int) < ((I2 (cycles r)).length : Int) := by rw [I2_len]; exact c1
      have c3' : (i : Int) < ((slG G (cycles r).length i []).length : Int) := by rw [slG_len]; exact c1
      have c4 := slG_at (G := G) (i := i) (add := []) hin
      have c6 : rd_L1 (I2 (cycles r)) (i : Int) = I ((cycles r)[i]) := rdL_at hin
      have c7 : ((I ((cycles r)[i])).length : Int) = ((((cycles r).getD i []).length : Nat) : Int) := by rw [I_len, List.getD_eq_getElem?_getD, List.getElem?_eq_getElem hin]; rfl
      have c9 : (outG (cycles r) G (cycles r).length i).length < 8796093022208 := by have := outG_len (cycles r) G (cycles r).length i; omega
      have hle := hG.le i hin
      have key := ih (i + 1) (by omega)
      by_cases e : G i = i
      · have hno : ¬ (G i < i ∨ i ∈ ([] : List Nat)) := by simp; omega
        rw [decide_eq_false hno] at c4
        rw [outG_yes e] at key
        refine ev_succ ?_
        have c5 := w64s i (by omega)
        simp only [spec_l08Cylinders.l0, c1, c2, c3, c3', c4, if_true, Bool.false_eq_true, if_false]
        refine Ev.bind (marked_ev hn h24 (upA_lt hs) (fun a b c h h' => upA_inj hs h h') hG hin e) ?_
        simp only [c5, c6, c7, c9, if_true]
        exact key
      · have hyes : G i < i ∨ i ∈ ([] : List Nat) := Or.inl (by omega)
        rw [decide_eq_true hyes] at c4
        rw [outG_no e] at key
        have e2 : slG G (cycles r).length (i + 1) [] = slG G (cycles r).length i [] := by
          unfold slG
          refine List.map_congr_left (fun q hq => ?_)
          have hq' := List.mem_range.mp hq
          have hq2 : G q ≠ i := fun h => e (by rw [← h]; exact hG.fix q hq')
          congr 1
          simp
          omega
        rw [e2] at key
        refine ev_succ ?_
        have c5 := w64s i (by omega)
        simp only [spec_l08Cylinders.l0, c1, c2, c3, c3', c4, c5, if_true]
        exact key
  have e0 : (List.replicate (cycles r).length false) = slG G (cycles r).length 0 [] := by
    unfold slG
    apply List.ext_getElem
    · simp
    · intro k h1 h2
      simp
  rw [e0]
  exact H (cycles r).length 0 (Nat.zero_add _)
end Go.Proofs.Ytbdnellgioimbaa.M
end
section
/- The least shears: the program and the reference answer alike. No conditions. -/
namespace Go.Proofs.Ytbdnellgioimbaa.M
set_option linter.unusedVariables false
set_option linter.unusedSimpArgs false
open Go.RowKit Go.Proofs.YtbdnellgioimbaaW.PrintWords Go.Proofs.YtbdnellgioimbaaW.PrintLast Go.Proofs.YtbdnellgioimbaaW.PrintMore Go.Proofs.Ytbdnellgioimbaa.A
theorem spec_cyl8 {r u : List Nat} (hs : Sf r u) {l : List S44} (h : Ev (fun k => spec_CylindersOf.f k (I r) (I u)) (l, true)) : Ev (fun k => spec_l08Cylinders.f k (I r) (I u)) l := by
  obtain ⟨K1, e1⟩ := h
  obtain ⟨K2, e2⟩ := spec_surf (I r) (I u)
  refine ⟨K1 + K2, fun k hk => ?_⟩
  have h1 := e1 k (by omega)
  have h2 := e2 k (by omega)
  dsimp only at h1 h2 ⊢
  unfold spec_CylindersOf.f at h1
  rw [h2, surfB_I.mpr hs] at h1
  simp only [Option.bind_some, if_true] at h1
  cases h3 : spec_l08Cylinders.f k (I r) (I u) with
  | none => rw [h3] at h1; cases h1
  | some z =>
    rw [h3] at h1
    simp only [Option.bind_some] at h1
    have h4 := congrArg Prod.fst (Option.some.inj h1)
    exact congrArg some h4
end Go.Proofs.Ytbdnellgioimbaa.M
end
section
/- Cylinders in a direction: the program and the reference answer alike. No conditions. -/
namespace Go.Proofs.Ytbdnellgioimbaa.M
set_option linter.unusedVariables false
set_option linter.unusedSimpArgs false
open Go.RowKit Go.Proofs.YtbdnellgioimbaaW.PrintWords Go.Proofs.YtbdnellgioimbaaW.PrintLast Go.Proofs.YtbdnellgioimbaaW.PrintMore Go.Proofs.Ytbdnellgioimbaa.A
def dirWordI (p q : Int) : ByteArray := (impl_DirectionWord.f 400 p q).getD ⟨#[]⟩
theorem dir_tab : ∀ a : Fin 13, ∀ b : Fin 13, slopeOkI (a.val : Int) (b.val : Int) = true → spec_DirectionWord.f 400 (a.val : Int) (b.val : Int) = some (dirWordI (a.val : Int) (b.val : Int)) ∧ impl_DirectionWord.f 400 (a.val : Int) (b.val : Int) = some (dirWordI (a.val : Int) (b.val : Int)) ∧ wordB (dirWordI (a.val : Int) (b.val : Int)) = true := by decide +kernel
theorem dir_ev {p q : Int} (h : slopeOkI p q = true) : Ev (fun k => spec_DirectionWord.f k p q) (dirWordI p q) ∧ Ev (fun k => impl_DirectionWord.f k p q) (dirWordI p q) ∧ wordB (dirWordI p q) = true := by
  obtain ⟨⟨h1, h2⟩, h3, h4⟩ := slope_in h
  obtain ⟨a, rfl⟩ : ∃ a : Nat, p = a := ⟨p.toNat, by omega⟩
  obtain ⟨b, rfl⟩ : ∃ b : Nat, q = b := ⟨q.toNat, by omega⟩
  obtain ⟨e1, e2, e3⟩ := dir_tab ⟨a, by omega⟩ ⟨b, by omega⟩ h
  exact ⟨Ev.of (fun k => spec_DirectionWord.mono _ _ _) e1, Ev.of (fun k => impl_DirectionWord.mono _ _ _) e2, e3⟩
theorem cylsIn_both (r u : List Int) (p q : Int) : ∃ (l : List S44) (b : Bool), l.length ≤ 24 ∧ Ev (fun k => spec_CylindersIn.f k r u p q) (l, b) ∧ Ev (fun k => impl_CylindersIn.f k r u p q) (l, b) := by
  have no1 : Ev (fun k => spec_CylindersIn.j0 k p q true r u) (([], false) : List S44 × Bool) := by
    refine ev_succ ?_
    simp only [spec_CylindersIn.j0, if_true]
    exact Ev.now _
  have no2 : Ev (fun k => impl_CylindersIn.j0 k p q true r u) (([], false) : List S44 × Bool) := by
    refine ev_succ ?_
    simp only [impl_CylindersIn.j0, if_true]
    exact Ev.now _
  unfold spec_CylindersIn.f impl_CylindersIn.f
  obtain ⟨s1, s2⟩ := slopes_ev p q
  by_cases h : surfB r u = true
  · by_cases ho : slopeOkI p q = true
    · obtain ⟨d1, d2, d3⟩ := dir_ev ho
      obtain ⟨r, u, rfl, rfl, hs⟩ := surf_nat h
      have hd := (of_decide_eq_true d3).2
      have hr := sf_rn (s := (r, u)) hs (dirWordI p q) (dirWordI p q).size
      have e1 := spec_run (s := (r, u)) hs (dirWordI p q) (by omega)
      have e2 := impl_run (I r) (I u) (dirWordI p q) (by omega)
      rw [runP_yes (s := (r, u)) hs d3] at e2
      generalize rn (dirWordI p q) (r, u) (dirWordI p q).size = s at hr e1 e2
      obtain ⟨G, g1, g2⟩ := impl_cyl hr.1
      have g3 := spec_cyl8 hr.1 (spec_cyl hr.1 g1)
      have hl := outG_len (cycles s.1) G (cycles s.1).length (cycles s.1).length
      have h24 := cycles_len (p := s.1) hr.1.le
      refine ⟨_, true, Nat.le_trans hl h24, Ev.bind (spec_surf _ _) ?_, Ev.bind (impl_surf _ _) ?_⟩
      · simp only [h, if_true]
        refine Ev.bind s1 ?_
        refine ev_succ ?_
        simp only [ho, spec_CylindersIn.j0, Bool.not_true, Bool.false_eq_true, if_false]
        exact Ev.bind d1 (Ev.bind e1 (Ev.bind g3 (Ev.now _)))
      · simp only [h, if_true]
        refine Ev.bind s2 ?_
        refine ev_succ ?_
        simp only [ho, impl_CylindersIn.j0, Bool.not_true, Bool.false_eq_true, if_false]
        refine Ev.bind d2 (Ev.bind e2 ?_)
        simp only [if_true]
        exact Ev.bind g2 (Ev.now _)
    · have ho' := Bool.eq_false_iff.mpr ho
      rw [ho'] at s1 s2
      refine ⟨[], false, by simp, Ev.bind (spec_surf _ _) ?_, Ev.bind (impl_surf _ _) ?_⟩
      · simp only [h, if_true]
        exact Ev.bind s1 no1
      · simp only [h, if_true]
        exact Ev.bind s2 no2
  · have h' := Bool.eq_false_iff.mpr h
    refine ⟨[], false, by simp, Ev.bind (spec_surf _ _) ?_, Ev.bind (impl_surf _ _) ?_⟩
    · simp only [h', Bool.false_eq_true, if_false]
      exact no1
    · simp only [h', Bool.false_eq_true, if_false]
      exact no2
theorem oneCyl_both (r u : List Int) (p q : Int) : ∃ b, Ev (fun k => spec_IsOneCylinder.f k r u p q) b ∧ Ev (fun k => impl_IsOneCylinder.f k r u p q) b := by
  obtain ⟨l, b, _, e1, e2⟩ := cylsIn_both r u p q
  unfold spec_IsOneCylinder.f impl_IsOneCylinder.f
  cases b with
  | true => exact ⟨_, Ev.bind e1 (by simp only [if_true]; exact Ev.now _), Ev.bind e2 (by simp only [if_true]; exact Ev.now _)⟩
  | false => exact ⟨false, Ev.bind e1 (by simp only [Bool.false_eq_true, if_false]; exact Ev.now _), Ev.bind e2 (by simp only [Bool.false_eq_true, if_false]; exact Ev.now _)⟩
end Go.Proofs.Ytbdnellgioimbaa.M
end
section
/- The law of directions with one cylinder answers true. No conditions. -/
namespace Go.Proofs.Ytbdnellgioimbaa.Pure
set_option linter.unusedVariables false
set_option linter.unusedSimpArgs false
open Go.RowKit Go.Proofs.YtbdnellgioimbaaW.PrintWords Go.Proofs.YtbdnellgioimbaaW.PrintLast Go.Proofs.YtbdnellgioimbaaW.PrintMore Go.Proofs.Ytbdnellgioimbaa.A Go.Proofs.Ytbdnellgioimbaa.M
theorem FnExactIsOneCylinder (r u : List Int) (p q : Int) (hr : r.length ≤ maxLen) (_ : ∀ x ∈ r, (Lit.int .i64 x).wf = true) (hu : u.length ≤ maxLen) (_ : ∀ x ∈ u, (Lit.int .i64 x).wf = true) (_ : (Lit.int .i64 p).wf = true) (_ : (Lit.int .i64 q).wf = true) : ∃ k, laws_FnExactIsOneCylinder.F k r u p q := by
  unfold maxLen at hr hu
  unfold laws_FnExactIsOneCylinder.F
  by_cases h2 : r.length + u.length ≤ 1048576
  · obtain ⟨n, ⟨K1, e1⟩, ⟨K2, e2⟩⟩ := oneCyl_both r u p q
    obtain ⟨K3, e3⟩ := toSurf_ev r u (by omega) (by omega)
    obtain ⟨K4, e4⟩ := eqSurf_same r u (by omega) (by omega)
    exact ⟨K1 + K2 + K3 + K4, _, sz_small h2, .inr ⟨by omega, n, e3 _ (by omega), e4 _ (by omega), e1 _ (by omega), e2 _ (by omega)⟩⟩
  · exact ⟨0, _, sz_big (by omega) (by omega) h2, .inl (by omega)⟩
end Go.Proofs.Ytbdnellgioimbaa.Pure
end
