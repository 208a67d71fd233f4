/- Lemmas for the row FnClasses: the program's functions told as plain functions, and plain mathematics. No conditions. -/
import Derived.Test.YtoijcallajegfaaQFnClasses3
section
/- Finding the orbit: the program's walk. No conditions. -/
namespace Go.Proofs.Ytoijcallajegfaa.M
set_option linter.unusedVariables false
set_option linter.unusedSimpArgs false
open Go Go.RowKit Go.Proofs.YtoijcallajegfaaW.PrintWords Go.Proofs.YtoijcallajegfaaW.PrintLast Go.Proofs.YtoijcallajegfaaW.PrintMore Go.Proofs.Ytoijcallajegfaa.A
def OrbPost (w w' : World) (e : Ending) : Option Orb → Prop
  | none => e = .returned (.tuple #[.pointer none, .bool false]) ∧ Below w.heap.size w w'
  | some s => ∃ gO gM n col vL vW vF vB vT vS, e = .returned (.tuple #[.pointer (some ⟨gO, 0, none⟩), .bool true]) ∧ OrbH w.heap.size col w' gO gM n vL vW vF vB vT vS s ∧ Below w.heap.size w w'
set_option maxHeartbeats 8000000 in
set_option maxRecDepth 100000 in
theorem orbit_no (k : Nat) (A0 : Option Addr) (c0 : Nat) (l0 : List Int) (A1 : Option Addr) (c1 : Nat) (l1 : List Int) (y1 y2 : List Int) (w : World) (h0 : Kd.C (Kd.int .i64) w A0 l0.length l0) (g0 : l0.length ≤ c0) (h1 : Kd.C (Kd.int .i64) w A1 l1.length l1) (g1 : l1.length ≤ c1) (h : impl_CanonOf.f k l0 l1 = some (y1, y2, false)) :
    Calls Try.prog 95 #[.agg #[.slice A0 l0.length c0, .slice A1 l1.length c1]] w fun e w' => OrbPost w w' e none := by
  have hu := Try.underlying33
  have H0 := Aside0.mk h0; have H1 := Aside0.mk h1; have G0 := Aside0.mk g0; have G1 := Aside0.mk g1; have HA := Aside0.mk h
  clear h0 h1 g0 g1 h
  have HB := Aside0.mk (Below.refl w.heap.size w)
  go_enter Try.func95, Try.ntmps95
  go_wp2_with (first | ((with_reducible refine gate_dst (N := 1) rfl ?_); refine bx_ 1 #[.slice A0 l0.length c0, .slice A1 l1.length c1] 33 ?_; intro gs hg w2 hbox hb; have BS := Aside0.mk hbox; replace HB := b1_ hb; clear hb hbox hg; obtain ⟨hcz0, hcz1, hfz0, hfz1⟩ := c2_ BS) | ((with_reducible refine gate_callee (f := 17) rfl ?_); refine gL_ (some 15) Try.func17 #[.agg #[.slice A0 l0.length c0, .slice A1 l1.length c1]] rfl qa_ ?_; (with_reducible refine (impl_CanonOf.calls k _ _ l0 _ _ l1 y1 y2 false _ (cb_ H0) G0.out (cb_ H1) G1.out HA.out).mono ?_); rintro e w3 ⟨v0, v1, rfl, ho0, ho1, hb⟩; refine ⟨_, rfl, ?_⟩; replace HB := b1_ hb; clear hb; obtain ⟨Ay0, cy0, ey0⟩ := Kd.R_slice ho0; subst ey0; obtain ⟨Ay1, cy1, ey1⟩ := Kd.R_slice ho1; subst ey1; clear ho0 ho1) | ((with_reducible refine gate_dst (N := 4) rfl ?_); refine bx_ 4 #[.slice none 0 0, .slice none 0 0] 33 ?_; intro gf hg w4 hbox hb; have GF := gw_ w hg; have BF := Aside0.mk hbox; replace HB := b1_ hb; clear hb hbox hg; obtain ⟨hcf0, hcf1, hff0, hff1⟩ := c2_ BF))
  go_ret2
  exact ⟨qb_, hB_⟩
section
variable {P : Program} {ops : Array Oper} {rest : List Oper} {o : Oper} {a : Act} {Q : Exit → Act → World → Prop}
theorem lit_event {W : World} (N : Tmp) (cs : Array Value) (e : TypeId) (n : Nat) (h : ∀ g, g = W.heap.size → ∀ w1, w1.heap[g]? = some (.cells cs e (0, 0)) → Below W.heap.size W w1 → wpList P ops Q rest (a.put o.dst (.slice (some ⟨g, 0, none⟩) n n)) w1) (hgd : o.guard = none := by rfl) (hd : o.dst = some N := by rfl)
    (hrun : (execOp a.eval o).run P W = .ok (.value (.slice (some ⟨W.heap.size, 0, none⟩) n n)) (W.alloc (.cells cs e (0, 0))) := by first | (go_simp; done) | (go_simp; rfl)) : wpList P ops Q (o :: rest) a W :=
  Kd.event_run hgd hrun (h _ rfl _ (blk_new W _) (below_alloc (Below.refl _ _) _))
theorem map_event {W : World} (N : Tmp) (h : ∀ g, g = W.heap.size → ∀ w1, w1.heap[g]? = some (.map #[] 0) → Below W.heap.size W w1 → wpList P ops Q rest (a.put o.dst (.map (some g))) w1) (hgd : o.guard = none := by rfl) (hd : o.dst = some N := by rfl)
    (hrun : (execOp a.eval o).run P W = .ok (.value (.map (some W.heap.size))) (W.alloc (.map #[] 0)) := by first | (go_simp; done) | (go_simp; rfl)) : wpList P ops Q (o :: rest) a W :=
  Kd.event_run hgd hrun (h _ rfl _ (blk_new W _) (below_alloc (Below.refl _ _) _))
end
theorem R_blk {α : Type} {enc : α → Value} {h1 : ∀ x : α, (enc x).oneCell' = true} {W : World} {g e base : Nat} {x : α} {ok : Nat → Prop} (hb : W.heap[g]? = some (.cells #[enc x] e (0, 0))) (hg : base ≤ g) (hok : ok g) : (Kd.scalar enc h1).R e W base ok (.slice (some ⟨g, 0, none⟩) 1 1) [x] :=
  ⟨fun k hk => (by simpa [Value.ownBlock] using hk : g = k) ▸ hok, [enc x], ⟨rfl, .inr ⟨g, 1, #[enc x], rfl, hg, hb, Nat.le_refl _, by decide, rfl, rfl⟩⟩, Reps.one rfl (Reps.none _ _)⟩
theorem S_blk {W : World} {g base : Nat} {u0 u1 : Value} {x : S33} {ok : Nat → Prop} (hb : W.heap[g]? = some (.cells #[u0, u1] 33 (0, 0))) (hg : base ≤ g) (hok : ok g) (h0 : Kd.R (Kd.int .i64) 3 W base (fun k => ok k ∧ k ≠ g) u0 x.f0) (h1 : Kd.R (Kd.int .i64) 3 W base (fun k => ok k ∧ k ≠ g) u1 x.f1) (ne : NeRow u0 u1) : Kd.S k33 33 W base ok (.slice (some ⟨g, 0, none⟩) 1 1) [x] := by
  refine ⟨fun _ => 0, fun k hk => by
    have : g = k := by simpa [Value.ownBlock] using hk
    exact this ▸ hok, [u0, u1], ⟨rfl, .inr ⟨g, 1, #[u0, u1], rfl, hg, hb, Nat.le_refl _, by decide, rfl, rfl⟩⟩, Reps.c2 ?_ (Reps.none _ _)⟩
  exact k33_mkM _ _ _ x (Kd.R_mono h0 (fun k hk => ⟨⟨hk.1, by simpa [Value.ownBlock] using hk.2⟩, rfl⟩)) (Kd.R_mono h1 (fun k hk => ⟨⟨hk.1, by simpa [Value.ownBlock] using hk.2⟩, rfl⟩)) ne
def orb_T21 : Bool × List (List Nat × List Nat) := (true, [([], []), ([0], [0]), ([1], [1]), ([2], [2]), ([], []), ([], []), ([5], [5]), ([6], [6]), ([7], [7]), ([], []), ([8, 9], [8, 9]), ([], []), ([11], [11]), ([10, 12], [10, 12]), ([3, 4, 13, 13, 0, 1, 2, 3, 4, 5, 6, 7, 8, 9, 10, 11, 12, 13], [3, 4, 13])])
def orb_B21 : List Nat := [0, 1, 3, 7, 0, 0, 32, 96, 224, 0, 992, 0, 2048, 8160, 16383]
theorem orb_tab21 : rtab .any (opsOf Try.f95 21) = orb_T21 := by kernel_rfl
theorem orb_bits21 : waitsOk orb_T21.2 orb_B21 = true := by kernel_rfl
def orb_T17 : Bool × List (List Nat × List Nat) := (true, [([], []), ([], []), ([1], [1]), ([2], [2]), ([3], [3]), ([], []), ([5], [5]), ([4, 6], [4, 6]), ([0, 0, 1, 2, 3, 4, 5, 6, 7], [0]), ([8, 0, 1, 2, 3, 4, 5, 6, 7], [8]), ([9, 7, 7, 0, 1, 2, 3, 4, 5, 6, 7], [7, 9])])
def orb_B17 : List Nat := [0, 0, 2, 6, 14, 0, 32, 126, 255, 511, 1023]
theorem orb_tab17 : rtab .any (opsOf Try.f95 17) = orb_T17 := by kernel_rfl
theorem orb_bits17 : waitsOk orb_T17.2 orb_B17 = true := by kernel_rfl
def orb_T18 : Bool × List (List Nat × List Nat) := (true, [([], []), ([], []), ([1], [1]), ([2], [2]), ([3], [3]), ([], []), ([5], [5]), ([6], [6]), ([7], [7]), ([], []), ([8, 9], [8, 9]), ([10], [10]), ([], []), ([12], [12]), ([13], [13]), ([11, 14], [11, 14]), ([15], [15]), ([4, 16], [4, 16]), ([0, 0, 1, 2, 3, 4, 5, 6, 7, 8, 9, 10, 11, 12, 13, 14, 15, 16, 17], [0]), ([18, 0, 1, 2, 3, 4, 5, 6, 7, 8, 9, 10, 11, 12, 13, 14, 15, 16, 17], [18]), ([19, 17, 17, 0, 1, 2, 3, 4, 5, 6, 7, 8, 9, 10, 11, 12, 13, 14, 15, 16, 17], [17, 19])])
def orb_B18 : List Nat := [0, 0, 2, 6, 14, 0, 32, 96, 224, 0, 992, 2016, 0, 4096, 12288, 32736, 65504, 131070, 262143, 524287, 1048575]
theorem orb_tab18 : rtab .any (opsOf Try.f95 18) = orb_T18 := by kernel_rfl
theorem orb_bits18 : waitsOk orb_T18.2 orb_B18 = true := by kernel_rfl
set_option maxHeartbeats 8000000 in
set_option maxRecDepth 100000 in
theorem orbit_yes (k : Nat) (A0 : Option Addr) (c0 : Nat) (l0 : List Int) (A1 : Option Addr) (c1 : Nat) (l1 : List Int) (y1 y2 : List Int) (R : Option Orb) (w : World) (h0 : Kd.C (Kd.int .i64) w A0 l0.length l0) (g0 : l0.length ≤ c0) (h1 : Kd.C (Kd.int .i64) w A1 l1.length l1) (g1 : l1.length ≤ c1) (h : impl_CanonOf.f k l0 l1 = some (y1, y2, true)) (hl : loopO k ⟨[⟨y1, y2⟩], [⟨#[]⟩], [-1], [0], [], []⟩ 0 = some R) :
    Calls Try.prog 95 #[.agg #[.slice A0 l0.length c0, .slice A1 l1.length c1]] w fun e w' => OrbPost w w' e R := by
  have hu := Try.underlying33
  have H0 := Aside0.mk h0; have H1 := Aside0.mk h1; have G0 := Aside0.mk g0; have G1 := Aside0.mk g1; have HA := Aside0.mk h; have HL := Aside0.mk hl
  clear h0 h1 g0 g1 h hl
  have HB := Aside0.mk (Below.refl w.heap.size w)
  go_enter Try.func95, Try.ntmps95
  go_upto_region 4 with (first | ((with_reducible refine gate_dst (N := 1) rfl ?_); refine bx_ 1 #[.slice A0 l0.length c0, .slice A1 l1.length c1] 33 ?_; intro gs hg w2 hbox hb; have BS := Aside0.mk hbox; replace HB := b1_ hb; clear hb hbox hg; obtain ⟨hcz0, hcz1, hfz0, hfz1⟩ := c2_ BS) | ((with_reducible refine gate_callee (f := 17) rfl ?_); refine gL_ (some 15) Try.func17 #[.agg #[.slice A0 l0.length c0, .slice A1 l1.length c1]] rfl qa_ ?_; (with_reducible refine (impl_CanonOf.calls k _ _ l0 _ _ l1 y1 y2 true _ (cb_ H0) G0.out (cb_ H1) G1.out HA.out).mono ?_); rintro e w3 ⟨v0, v1, rfl, ho0, ho1, hb⟩; refine ⟨_, rfl, ?_⟩; have ZB := Aside0.mk (below_size hB_ : w.heap.size ≤ w2.heap.size); replace HB := b1_ hb; clear hb; obtain ⟨Ay0, cy0, ey0⟩ := Kd.R_slice ho0; subst ey0; obtain ⟨Ay1, cy1, ey1⟩ := Kd.R_slice ho1; subst ey1; have Y0 := Aside0.mk ho0; have Y1 := Aside0.mk ho1; clear ho0 ho1) | ((with_reducible refine gate_dst (N := 4) rfl ?_); refine bx_ 4 #[.slice none 0 0, .slice none 0 0] 33 ?_; intro gf hg w4 hbox hb; have GF := gw_ w hg; have GF2 := Aside0.mk (show w3.heap.size ≤ gf from Nat.le_of_eq hg.symm); have BF := Aside0.mk hbox; have B3 := Aside0.mk hb; replace HB := b1_ hb; clear hb hbox hg; obtain ⟨hcf0, hcf1, hff0, hff1⟩ := c2_ BF))
  obtain ⟨hbox, hkp, hB2⟩ := box_store BF.out (.slice Ay0 y1.length cy0) (.slice Ay1 y2.length cy1) HB.out GF.out
  generalize hw : ((w4.setCell ⟨gf, 0, none⟩ (.slice Ay0 y1.length cy0)).setCell ⟨gf, 1, none⟩ (.slice Ay1 y2.length cy1)) = w5 at hbox hkp hB2 ⊢
  clear hw hcf0 hcf1 hff0 hff1 hcz0 hcz1 hfz0 hfz1 HB
  have NE := Aside0.mk (show NeRow (.slice Ay0 y1.length cy0) (.slice Ay1 y2.length cy1) from fun k_ e1_ e2_ => (Y0.out.1 k_ e1_) e2_.symm)
  replace Y0 := Aside0.mk (Kd.R_kept (Kd.R_below (Kd.R_bound Y0.out) B3.out) hkp (fun k_ hk hs => by have h2 := hk.2.2.1; have h3 := GF2.out; omega))
  replace Y1 := Aside0.mk (Kd.R_kept (Kd.R_below (Kd.R_bound Y1.out) B3.out) hkp (fun k_ hk hs => by have h2 := hk.2.2.1; have h3 := GF2.out; omega))
  have HB := Aside0.mk hB2
  replace BF := Aside0.mk (show w5.heap[gf]? = some (.cells #[.slice Ay0 y1.length cy0, .slice Ay1 y2.length cy1] 33 (0, 0)) from hbox)
  have Z5 := Aside0.mk hkp.1
  have HB5 := HB
  clear hbox hkp hB2
  obtain ⟨hcf0, hcf1, hff0, hff1⟩ := c2_ BF
  replace Y0 := Aside0.mk (Kd.R_bound Y0.out)
  replace Y1 := Aside0.mk (Kd.R_bound Y1.out)
  go_wp2_with (first | ((with_reducible refine gate_dst (N := 21) rfl ?_); refine lit_event 21 #[.slice Ay0 y1.length cy0, .slice Ay1 y2.length cy1] 33 1 ?_; intro g1 hg w6 hbox hb; have Kg1 := Aside0.mk hbox; have Sg1 := Aside0.mk (show w5.heap.size ≤ g1 ∧ g1 < w6.heap.size from ⟨Nat.le_of_eq hg.symm, (Array.getElem?_eq_some_iff.1 hbox).1⟩); replace Y0 := Aside0.mk (Kd.R_below Y0.out hb); replace Y1 := Aside0.mk (Kd.R_below Y1.out hb); replace HB := b1_ hb; clear hb hbox hg) | ((with_reducible refine gate_dst (N := 22) rfl ?_); refine lit_event 22 #[.string ⟨#[]⟩] 9 1 ?_; intro g2 hg w7 hbox hb; have Kg2 := Aside0.mk hbox; have Sg2 := Aside0.mk (show w6.heap.size ≤ g2 ∧ g2 < w7.heap.size from ⟨Nat.le_of_eq hg.symm, (Array.getElem?_eq_some_iff.1 hbox).1⟩); replace Kg1 := bb_ Kg1 hb; replace Y0 := Aside0.mk (Kd.R_below Y0.out hb); replace Y1 := Aside0.mk (Kd.R_below Y1.out hb); replace HB := b1_ hb; clear hb hbox hg) | ((with_reducible refine gate_dst (N := 23) rfl ?_); refine lit_event 23 #[.int .i64 (-1)] 3 1 ?_; intro g3 hg w8 hbox hb; have Kg3 := Aside0.mk hbox; have Sg3 := Aside0.mk (show w7.heap.size ≤ g3 ∧ g3 < w8.heap.size from ⟨Nat.le_of_eq hg.symm, (Array.getElem?_eq_some_iff.1 hbox).1⟩); replace Kg1 := bb_ Kg1 hb; replace Kg2 := bb_ Kg2 hb; replace Y0 := Aside0.mk (Kd.R_below Y0.out hb); replace Y1 := Aside0.mk (Kd.R_below Y1.out hb); replace HB := b1_ hb; clear hb hbox hg) | ((with_reducible refine gate_dst (N := 24) rfl ?_); refine lit_event 24 #[.int .u8 0] 5 1 ?_; intro g4 hg w9 hbox hb; have Kg4 := Aside0.mk hbox; have Sg4 := Aside0.mk (show w8.heap.size ≤ g4 ∧ g4 < w9.heap.size from ⟨Nat.le_of_eq hg.symm, (Array.getElem?_eq_some_iff.1 hbox).1⟩); replace Kg1 := bb_ Kg1 hb; replace Kg2 := bb_ Kg2 hb; replace Kg3 := bb_ Kg3 hb; replace Y0 := Aside0.mk (Kd.R_below Y0.out hb); replace Y1 := Aside0.mk (Kd.R_below Y1.out hb); replace HB := b1_ hb; clear hb hbox hg) | ((with_reducible refine gate_dst (N := 25) rfl ?_); refine map_event 25 ?_; intro gM hg w10 hbox hb; have KgM := Aside0.mk hbox; have SgM := Aside0.mk (show w9.heap.size ≤ gM ∧ gM < w10.heap.size from ⟨Nat.le_of_eq hg.symm, (Array.getElem?_eq_some_iff.1 hbox).1⟩); replace Kg1 := bb_ Kg1 hb; replace Kg2 := bb_ Kg2 hb; replace Kg3 := bb_ Kg3 hb; replace Kg4 := bb_ Kg4 hb; replace Y0 := Aside0.mk (Kd.R_below Y0.out hb); replace Y1 := Aside0.mk (Kd.R_below Y1.out hb); replace HB := b1_ hb; clear hb hbox hg) | ((with_reducible refine gate_dst (N := 27) rfl ?_); refine bx_ 27 #[.slice (some ⟨g1, 0, none⟩) 1 1, .slice (some ⟨g2, 0, none⟩) 1 1, .slice (some ⟨g3, 0, none⟩) 1 1, .slice (some ⟨g4, 0, none⟩) 1 1, .map (some gM)] 97 ?_; intro gO hg w11 hbox hb; have KgO := Aside0.mk hbox; have SgO := Aside0.mk (show w10.heap.size ≤ gO ∧ gO < w11.heap.size from ⟨Nat.le_of_eq hg.symm, (Array.getElem?_eq_some_iff.1 hbox).1⟩); replace Kg1 := bb_ Kg1 hb; replace Kg2 := bb_ Kg2 hb; replace Kg3 := bb_ Kg3 hb; replace Kg4 := bb_ Kg4 hb; replace KgM := bb_ KgM hb; replace Y0 := Aside0.mk (Kd.R_below Y0.out hb); replace Y1 := Aside0.mk (Kd.R_below Y1.out hb); replace HB := b1_ hb; clear hb hbox hg))
  have HH : Aside0 (OrbH w.heap.size (fun k => if k = g2 then 1 else if k = g3 then 2 else if k = g4 then 3 else if k = gO then 6 else if k = gM then 7 else 0) w11 gO gM 0 (.slice (some ⟨g1, 0, none⟩) 1 1) (.slice (some ⟨g2, 0, none⟩) 1 1) (.slice (some ⟨g3, 0, none⟩) 1 1) (.slice (some ⟨g4, 0, none⟩) 1 1) (.slice none 0 0) (.slice none 0 0) ⟨[⟨y1, y2⟩], [⟨#[]⟩], [-1], [0], [], []⟩) := by
    have q1 := Sg1.out; have q2 := Sg2.out; have q3 := Sg3.out; have q4 := Sg4.out; have q5 := SgM.out; have q6 := SgO.out
    have z5 := Z5.out; have z2 := ZB.out; have zf := GF.out; have zg := GF2.out
    have bz : w.heap.size ≤ w5.heap.size := HB5.out.size
    refine ⟨⟨KgO.out, KgM.out, ?_, ?_, by omega, by omega, fun _ => rfl, fun _ => rfl, ?_, ?_, ?_, ?_, Kd.R_nil _ _ _ _ _, Kd.R_nil _ _ _ _ _⟩⟩
    · show (if gO = g2 then 1 else if gO = g3 then 2 else if gO = g4 then 3 else if gO = gO then 6 else if gO = gM then 7 else 0) = 6
      rw [if_neg (by omega), if_neg (by omega), if_neg (by omega), if_pos rfl]
    · show (if gM = g2 then 1 else if gM = g3 then 2 else if gM = g4 then 3 else if gM = gO then 6 else if gM = gM then 7 else 0) = 7
      rw [if_neg (by omega), if_neg (by omega), if_neg (by omega), if_neg (by omega), if_pos rfl]
    · refine S_blk (x := ⟨y1, y2⟩) Kg1.out (by omega) ?_ ?_ ?_ NE.out
      · show (if g1 = g2 then 1 else if g1 = g3 then 2 else if g1 = g4 then 3 else if g1 = gO then 6 else if g1 = gM then 7 else 0) = 0
        rw [if_neg (by omega), if_neg (by omega), if_neg (by omega), if_neg (by omega), if_neg (by omega)]
      · refine Kd.R_mono (Kd.R_lower Y0.out (by omega)) (fun k hk => ?_)
        have hk2 := hk.2.2.1
        show (if k = g2 then 1 else if k = g3 then 2 else if k = g4 then 3 else if k = gO then 6 else if k = gM then 7 else 0) = 0 ∧ k ≠ g1
        rw [if_neg (by omega), if_neg (by omega), if_neg (by omega), if_neg (by omega), if_neg (by omega)]
        exact ⟨rfl, by omega⟩
      · refine Kd.R_mono (Kd.R_lower Y1.out (by omega)) (fun k hk => ?_)
        have hk2 := hk.2.2.1
        show (if k = g2 then 1 else if k = g3 then 2 else if k = g4 then 3 else if k = gO then 6 else if k = gM then 7 else 0) = 0 ∧ k ≠ g1
        rw [if_neg (by omega), if_neg (by omega), if_neg (by omega), if_neg (by omega), if_neg (by omega)]
        exact ⟨rfl, by omega⟩
    · exact R_blk Kg2.out (by omega) (if_pos rfl)
    · refine R_blk Kg3.out (by omega) ?_
      show (if g3 = g2 then 1 else if g3 = g3 then 2 else if g3 = g4 then 3 else if g3 = gO then 6 else if g3 = gM then 7 else 0) = 2
      rw [if_neg (by omega), if_pos rfl]
    · refine R_blk Kg4.out (by omega) ?_
      show (if g4 = g2 then 1 else if g4 = g3 then 2 else if g4 = g4 then 3 else if g4 = gO then 6 else if g4 = gM then 7 else 0) = 3
      rw [if_neg (by omega), if_neg (by omega), if_pos rfl]
  clear Kg1 Kg2 Kg3 Kg4 KgM KgO Sg1 Sg2 Sg3 Sg4 SgM SgO Y0 Y1 NE BF GF GF2 Z5 ZB B3 BS H0 H1 G0 G1 HA hcf0 hcf1 hff0 hff1 HB5
  go_loopg [7] k (fun kq v7 w' => ∃ (x7 : Int) (n : Nat) (col : Nat → Nat) (vL vW vF vB vT vS : Value) (s : Orb), v7 = .int .i64 x7 ∧ Aside0 (loopO kq s x7 = some R) ∧ Aside0 (kq ≤ k) ∧ Aside0 (n = 0 ∨ n = 2) ∧ Aside0 (OrbH w.heap.size col w' gO gM n vL vW vF vB vT vS s) ∧ Aside0 (Below w.heap.size w w'))
  case atStart => exact ⟨0, 0, _, _, _, _, _, _, _, _, rfl, HL, ⟨Nat.le_refl _⟩, ⟨.inl rfl⟩, HH, HB⟩
  case round =>
    clear HL HH HB
    obtain ⟨x7, n, col, vL, vW, vF, vB, vT, vS, s, rfl, HA, HK, HN, HH, HB⟩ := hrel
    cases gk with
    | zero => exact absurd HA.out (by simp [loopO])
    | succ k1 =>
      have H := HA.out
      clear HA
      simp only [loopO] at H
      obtain ⟨AL, cL, eL⟩ := Kd.S_slice HH.out.hL
      subst eL
      have hco0 : wr.cell? ⟨gO, 0, none⟩ = some (.slice AL s.L.length cL) := (blk_cell HH.out.hO 0).trans rfl
      have hfo0 := blk_frozen HH.out.hO 0
      by_cases hq1 : x7 < (s.L.length : Int)
      · rw [if_pos hq1] at H
        have c1b := decide_eq_true hq1
        obtain ⟨z, AZ, H⟩ := bi_ H
        have HR := Aside0.mk H
        clear H
        obtain ⟨wo, hwo⟩ : ∃ wo : World, wo = wr := ⟨_, rfl⟩
        subst hwo
        go_wp2_with (first | ((with_reducible refine gate_dst (N := 37) rfl ?_); refine lit_event 37 #[.int .u8 84, .int .u8 83] 5 2 ?_; intro gl hg w12 hbox hb; have SL := Aside0.mk (show wo.heap.size ≤ gl from Nat.le_of_eq hg.symm); have BL := Aside0.mk hbox; have HH2 := Aside0.mk ((HH.out.recol (col' := fun k => if k = gl then 8 else col k) (fun k hk => if_neg (by have := SL.out; omega))).below hb); replace HB := b1_ hb; clear hb hbox hg))
        clear hco0 hfo0 c1b HH
        have SLG := SL
        go_loopg [39] 2 (fun gi v39 w' => ∃ (jj n' : Nat) (col' : Nat → Nat) (vL vW vF vB vT vS : Value) (s' : Orb), v39 = .int .i64 (jj : Int) ∧ Aside0 (jj ≤ 2) ∧ Aside0 (2 - jj ≤ gi) ∧ Aside0 (innerO k1 x7 (([84, 83] : List Int).drop jj) s' = some z) ∧ Aside0 ((jj = 0 → n' = 0 ∨ n' = 2) ∧ (jj = 1 → n' = 1 ∨ n' = 2) ∧ (jj = 2 → n' = 2)) ∧ Aside0 (col' gl = 8) ∧ Aside0 (w'.heap[gl]? = some (.cells #[.int .u8 84, .int .u8 83] 5 (0, 0))) ∧ Aside0 (OrbH w.heap.size col' w' gO gM n' vL vW vF vB vT vS s') ∧ Aside0 (Below w.heap.size w w'))
        case atStart => exact ⟨0, n, (fun k => if k = gl then 8 else col k), _, _, _, _, _, _, s, rfl, ⟨by omega⟩, ⟨by omega⟩, AZ, ⟨⟨fun _ => HN.out, fun e => absurd e (by decide), fun e => absurd e (by decide)⟩⟩, ⟨if_pos rfl⟩, BL, HH2, HB⟩
        case round =>
          clear AZ HH2 HB BL SL HN
          obtain ⟨jj, n', col', vL', vW', vF', vB', vT', vS', s', rfl, HJ, HG, AZ, HN, HC, BL, HH, HB⟩ := hrel
          have hj := HJ.out
          obtain ⟨AL', cL', eL'⟩ := Kd.S_slice HH.out.hL
          subst eL'
          have hcl0 : wr.cell? ⟨gl, 0, none⟩ = some (.int .u8 84) := (blk_cell BL.out 0).trans rfl
          have hcl1 : wr.cell? ⟨gl, 1, none⟩ = some (.int .u8 83) := (blk_cell BL.out 1).trans rfl
          have hfl0 := blk_frozen BL.out 0
          have hfl1 := blk_frozen BL.out 1
          have hco0 : wr.cell? ⟨gO, 0, none⟩ = some (.slice AL' s'.L.length cL') := (blk_cell HH.out.hO 0).trans rfl
          have hfo0 := blk_frozen HH.out.hO 0
          rcases Nat.lt_or_ge jj 2 with hj2 | hj2
          · have hq3 : jj = 0 ∨ jj = 1 := by omega
            rcases hq3 with rfl | rfl
            · skip
              have hn0 := Aside0.mk (HN.out.1 rfl)
              have H := AZ.out
              clear AZ
              change innerO k1 x7 (84 :: [83]) s' = some z at H
              simp only [innerO] at H
              obtain ⟨zz, AS, H⟩ := bi_ H
              have HT := Aside0.mk H
              have H := AS.out
              clear AS
              unfold stpO at H
              have hi0 := cp_ H
              replace H := ca_ H
              have hi1 := cp_ H
              replace H := ca_ H
              obtain ⟨⟨x1, x2⟩, AX, H⟩ := bi_ H
              obtain ⟨⟨y1', y2', yb⟩, AY, H⟩ := bi_ H
              obtain ⟨j, AJ, H⟩ := bi_ H
              dsimp only at H AY AJ
              have HS := Aside0.mk H
              clear H
              obtain ⟨adx, Ax0, cx0, Ax1, cx1, ex, hx0, hx1, hlx0, hix0, hlx1, hix1⟩ := at_T33 (Kd.S_reads' HH.out.hL).2.2 x7 hi0 hi1
              cases ex
              have X0 := Aside0.mk hix0; have X1 := Aside0.mk hix1; have LX0 := Aside0.mk hlx0; have LX1 := Aside0.mk hlx1
              clear hix0 hix1 hlx0 hlx1
              have ti0 := eq_true hi0
              have ti1 := eq_true hi1
              have td1 := decide_eq_true hi1
              go_upto_region 12 with (first | ((with_reducible refine gate_callee (f := 70) rfl ?_); refine gL_ (some 52) Try.func70 #[.agg #[.slice Ax0 (rd_T33 s'.L x7).f0.length cx0, .slice Ax1 (rd_T33 s'.L x7).f1.length cx1], .int .u8 84] rfl qa_ ?_; (with_reducible refine (impl_letterSurface.calls k1 _ _ (rd_T33 s'.L x7).f0 _ _ (rd_T33 s'.L x7).f1 84 x1 x2 _ X0.out LX0.out X1.out LX1.out AX.out).mono ?_); rintro e w13 ⟨v0, v1, rfl, ho0, ho1, hb⟩; refine ⟨_, rfl, ?_⟩; replace HH := Aside0.mk (HH.out.below hb); replace BL := bb_ BL hb; replace HB := b1_ hb; clear hb; obtain ⟨Al0, cl0, el0⟩ := Kd.R_slice ho0; subst el0; obtain ⟨Al1, cl1, el1⟩ := Kd.R_slice ho1; subst el1; have LT0 := Aside0.mk (Kd.R_reads' ho0).2; have LT1 := Aside0.mk (Kd.R_reads' ho1).2; clear ho0 ho1) | ((with_reducible refine gate_callee (f := 17) rfl ?_); refine gL_ (some 53) Try.func17 #[.agg #[.slice Al0 x1.length cl0, .slice Al1 x2.length cl1]] rfl qa_ ?_; (with_reducible refine (impl_CanonOf.calls k1 _ _ x1 _ _ x2 y1' y2' yb _ LT0.out.2 LT0.out.1 LT1.out.2 LT1.out.1 AY.out).mono ?_); rintro e w14 ⟨v0, v1, rfl, ho0, ho1, hb⟩; refine ⟨_, rfl, ?_⟩; have ZC := Aside0.mk (below_size hB_ : w.heap.size ≤ w13.heap.size); have ZD := Aside0.mk hb.size; have SL13 := Aside0.mk (Kd.S_below (Kd.S_mono (ok' := fun k_ => col' k_ = 0 ∧ k_ < w13.heap.size) (Kd.S_bound HH.out.hL) (fun k_ hk_ => ⟨hk_.1, hk_.2.2.1⟩)) hb); replace HH := Aside0.mk ((HH.out.recol (col' := rcl w13.heap.size col' 0) (fun k hk => rcl_old hk)).below hb); replace HC := Aside0.mk ((rcl_old (blk_lt BL.out)).trans HC.out : rcl w13.heap.size col' 0 gl = 8); replace BL := bb_ BL hb; replace HB := b1_ hb; clear hb; obtain ⟨Ay0, cy0, ey0⟩ := Kd.R_slice ho0; subst ey0; obtain ⟨Ay1, cy1, ey1⟩ := Kd.R_slice ho1; subst ey1; have Y0 := Aside0.mk ho0; have Y1 := Aside0.mk ho1; clear ho0 ho1) | ((with_reducible refine gate_dst (N := 10) rfl ?_); refine bx_ 10 #[.slice none 0 0, .slice none 0 0] 33 ?_; intro gx hg w15 hbox hb; have GX := Aside0.mk (show w14.heap.size ≤ gx from Nat.le_of_eq hg.symm); have BX := Aside0.mk hbox; have B3 := Aside0.mk hb; clear hb hbox hg; obtain ⟨hcf0, hcf1, hff0, hff1⟩ := c2_ BX))
              obtain ⟨hbox, hkp, hB2⟩ := box_store (w0 := w14) BX.out (.slice Ay0 y1'.length cy0) (.slice Ay1 y2'.length cy1) B3.out GX.out
              generalize hw : ((w15.setCell ⟨gx, 0, none⟩ (.slice Ay0 y1'.length cy0)).setCell ⟨gx, 1, none⟩ (.slice Ay1 y2'.length cy1)) = w16 at hbox hkp hB2 ⊢
              clear hw hcf0 hcf1 hff0 hff1 hcl0 hcl1 hfl0 hfl1 hco0 hfo0 hx0 hx1 X0 X1 LX0 LX1 LT0 LT1
              have NE := Aside0.mk (show NeRow (.slice Ay0 y1'.length cy0) (.slice Ay1 y2'.length cy1) from fun k_ e1_ e2_ => (Y0.out.1 k_ e1_) e2_.symm)
              replace HH := Aside0.mk (HH.out.below hB2)
              replace BL := Aside0.mk (blk_below BL.out hB2)
              replace Y0 := Aside0.mk (Kd.R_below (Kd.R_bound Y0.out) hB2)
              replace Y1 := Aside0.mk (Kd.R_below (Kd.R_bound Y1.out) hB2)
              replace SL13 := Aside0.mk (Kd.S_below SL13.out hB2)
              replace HB := Aside0.mk (below_step HB.out hB2)
              replace BX := Aside0.mk (show w16.heap[gx]? = some (.cells #[.slice Ay0 y1'.length cy0, .slice Ay1 y2'.length cy1] 33 (0, 0)) from hbox)
              have ZE := Aside0.mk hB2.size
              clear hbox hkp hB2 B3
              obtain ⟨hcx0, hcx1, hfx0, hfx1⟩ := c2_ BX
              have hLr := (Kd.S_reads' HH.out.hL).2
              have RL := Aside0.mk hLr
              clear hLr
              go_upto_region 13 with (first | ((with_reducible refine gate_callee (f := 133) rfl ?_); refine gL_ (some 58) Try.func133 #[.pointer (some ⟨gO, 0, none⟩), .agg #[.slice Ay0 y1'.length cy0, .slice Ay1 y2'.length cy1]] rfl qa_ ?_; (with_reducible refine (index_calls k1 gO _ _ s'.L _ _ _ _ _ _ y1' _ _ y2' j _ RL.out.2 RL.out.1 (Kd.R_reads' Y0.out).2.2 (Kd.R_reads' Y0.out).2.1 (Kd.R_reads' Y1.out).2.2 (Kd.R_reads' Y1.out).2.1 HH.out.hO AJ.out).mono ?_); rintro e w17 ⟨rfl, hb⟩; refine ⟨_, rfl, ?_⟩; have ZF := Aside0.mk hb.size; replace HH := Aside0.mk (HH.out.below hb); replace BL := bb_ BL hb; replace BX := bb_ BX hb; replace Y0 := Aside0.mk (Kd.R_below Y0.out hb); replace Y1 := Aside0.mk (Kd.R_below Y1.out hb); replace SL13 := Aside0.mk (Kd.S_below SL13.out hb); replace HB := b1_ hb; clear hb))
              clear hcx0 hcx1 hfx0 hfx1 RL
              have ZW := Aside0.mk (show w13.heap.size ≤ w17.heap.size from Nat.le_trans ZD.out (Nat.le_trans ZE.out ZF.out))
              clear ZD ZE ZF
              by_cases hj0 : j < 0
              · have H := HS.out
                clear HS
                rw [if_pos hj0] at H
                have hjb := decide_eq_true hj0
                have hco0 : w17.cell? ⟨gO, 0, none⟩ = some (.slice (some adx) s'.L.length cL') := (blk_cell HH.out.hO 0).trans rfl
                have hfo0 := blk_frozen HH.out.hO 0
                by_cases hq5 : (s'.L.length : Int) = 120
                · rw [if_pos hq5] at H
                  obtain rfl := Option.some.inj H
                  clear H
                  have hzn : z = none := (Option.some.inj HT.out).symm
                  subst hzn
                  have hRn : R = none := (Option.some.inj HR.out).symm
                  subst hRn
                  have e5b : ((s'.L.length : Int) == 120) = true := beq_iff_eq.mpr hq5
                  clear hq5
                  go_wp2
                  go_ret2
                  exact ⟨qb_, hB_⟩
                · rw [if_neg hq5] at H
                  have e5b : ((s'.L.length : Int) == 120) = false := beq_eq_false_iff_ne.mpr hq5
                  clear hq5
                  have hlen := cp_ H
                  replace H := ca_ H
                  have hiW := cp_ H
                  replace H := ca_ H
                  have hsz := cp_ H
                  replace H := Option.some.inj (ca_ H)
                  subst H
                  rw [if_pos rfl, if_pos rfl] at HT
                  have LN := Aside0.mk hlen
                  have LS := Aside0.mk hsz
                  clear hlen hsz
                  go_upto_region 17 with (fail)
                  clear hco0 hfo0 e5b
                  replace HH := Aside0.mk (HH.out.below (below_drew1 (Below.refl _ _)))
                  replace BL := Aside0.mk (blk_drew BL.out)
                  replace BX := Aside0.mk (blk_drew BX.out)
                  replace HB := Aside0.mk (below_drew1 HB.out)
                  replace Y0 := Aside0.mk (Kd.R_bound (Kd.R_drew Y0.out))
                  replace Y1 := Aside0.mk (Kd.R_bound (Kd.R_drew Y1.out))
                  replace SL13 := Aside0.mk (Kd.S_drew SL13.out)
                  replace ZW := Aside0.mk (show w13.heap.size ≤ w17.drew.heap.size from ZW.out)
                  refine start_ (n := 11) (S := fun w' => w'.cell? ⟨gO, 0, none⟩ = some (.slice (some adx) s'.L.length cL') ∧ w'.cell? ⟨gx, 0, none⟩ = some (.slice Ay0 y1'.length cy0) ∧ w'.cell? ⟨gx, 1, none⟩ = some (.slice Ay1 y2'.length cy1)) (ds := [7, 10]) (bl_ 11 0) (by kernel_rfl) rfl (by kernel_rfl) ⟨(blk_cell HH.out.hO 0).trans rfl, (blk_cell BX.out 0).trans rfl, (blk_cell BX.out 1).trans rfl⟩ (fun hHeld => ?_)
                  refine with_tabW orb_tab17 orb_bits17 (fun HT_ HW_ => ?_)
                  generalize w17.drew = wa at HH BL BX HB Y0 Y1 SL13 ZW hHeld ⊢
                  refine pu_ 0 (some 68) (bl_ 11 1) HT_ ?_
                  refine pu_ 1 (some 69) (bl_ 11 3) HT_ ?_
                  refine pu_ 2 (some 70) (bl_ 11 7) HT_ ?_
                  refine pu_ 3 (some 71) (bl_ 11 15) HT_ ?_
                  refine ta_ 4 (some 72) (bl_ 11 31) HT_ HW_ hHeld ?_
                  refine ta_ 5 (some 73) (bl_ 11 63) HT_ HW_ hHeld ?_
                  refine on_ 6 (some 74) (bl_ 11 127) HT_ (fun K hK => ?_)
                  refine value_ (w1 := ?_) (v := ?_) (by rfl) rfl ?_ ?_
                  rotate_left 2
                  · go_simp
                    constructor
                    · rfl
                    · rfl
                  refine hK.out _ _ ⟨((below_alloc (Below.refl _ _) _).cell (World.block_lt_of_cell? _ _ hHeld.1)).trans hHeld.1, ((below_alloc (Below.refl _ _) _).cell (World.block_lt_of_cell? _ _ hHeld.2.1)).trans hHeld.2.1, ((below_alloc (Below.refl _ _) _).cell (World.block_lt_of_cell? _ _ hHeld.2.2)).trans hHeld.2.2⟩ (fun hHeld => ?_)
                  clear hK K
                  refine no_ (some 74) ?_
                  refine last_ (i := 7) (N := some 75) (bl_ 11 255) rfl rfl (one_of HT_.out (by kernel_rfl)) (by decide) (fun K hK => ?_)
                  refine Kd.S_append_step k33 (w0 := w) w.heap.size (by rfl) (.tmp 72) (.tmp 74) 25 33 (.agg #[(.slice none 0 0), (.slice none 0 0)]) 48 rfl Try.underlying25 info33 rfl (by decide) (by omega) (.slice (some adx) s'.L.length cL') s'.L (⟨y1', y2'⟩ : S33) [.slice Ay0 y1'.length cy0, .slice Ay1 y2'.length cy1] (fun k_ => rcl wa.heap.size (rcl w13.heap.size col' 0) 0 k_ = 0) (fun k_ => w13.heap.size ≤ k_ ∧ k_ < wa.heap.size) rfl rfl ?aP ?aQ (fun k_ hk => rcl_new hk) ?aO HB.out HB.out.size (by have := LN.out; omega) ?_
                  case aP => exact k33_mkM _ _ _ (⟨y1', y2'⟩ : S33) (Kd.R_mono (Kd.R_lower Y0.out ZC.out) (fun k_ hk => ⟨hk.2.1, hk.2.2.1⟩)) (Kd.R_mono (Kd.R_lower Y1.out ZC.out) (fun k_ hk => ⟨hk.2.1, hk.2.2.1⟩)) NE.out
                  case aQ => exact fun k_ hk => ⟨(rcl_old hk.2).trans (rcl_new hk.1), fun e => by have := ((Kd.S_R SL13.out).1 k_ e.symm).2; have := hk.1; omega⟩
                  case aO => exact Kd.S_mono SL13.out (fun k_ hk => ⟨(rcl_old (Nat.lt_of_lt_of_le hk.2 ZW.out)).trans ((rcl_old hk.2).trans hk.1), fun h_ => by have := hk.2; have := h_.1; omega⟩)
                  intro v1 wb ho hb hg hat
                  obtain ⟨An1, cn1, en1⟩ := Kd.S_slice ho
                  subst en1
                  have HO19 := (B_gr HH.out.hO HH.out.cO hg (Kd.S_R HH.out.hL).1 (by decide)).1
                  have HC3 := Aside0.mk (B_gr BL.out HC.out hg (Kd.S_R HH.out.hL).1 (by decide))
                  have HP := HH.out.putL hg ho
                  have HB2 := Aside0.mk hb
                  refine hK.out _ _ ?_
                  clear hK K ho hb hg hat SL13 Y0 Y1 BX NE GX
                  refine no_ (some 75) ?_
                  refine pu_ 8 (some 76) (bl_ 11 511) HT_ ?_
                  refine pu_ 9 (some 77) (bl_ 11 1023) HT_ ?_
                  refine last_ (i := 10) (N := none) (bl_ 11 2047) rfl rfl (one_of HT_.out (by kernel_rfl)) (by decide) (fun K hK => ?_)
                  have hs19 : wb.cell? ⟨gO, 0, none⟩ = some (.slice (some adx) s'.L.length cL') := (blk_cell HO19 0).trans rfl
                  have hf19 := blk_frozen HO19 0
                  refine skip_ (w1 := wb.setCell ⟨gO, 0, none⟩ (.slice An1 (s'.L ++ [(⟨y1', y2'⟩ : S33)]).length cn1)) (by rfl) rfl ?_ ?_
                  · go_simp
                  refine hK.out _ _ ?_
                  clear hK K hs19 hf19
                  refine done_ (done_of HT_.out (by kernel_rfl)) ?_
                  have hne_ : gl ≠ gO := fun e => by have a1 := HC3.out.2; have a2 := HP.cO; rw [e] at a1; omega
                  have HB3 := Aside0.mk (below_set (g := gO) (j := 0) (v := (.slice An1 (s'.L ++ [(⟨y1', y2'⟩ : S33)]).length cn1)) HB2.out HP.bO)
                  have BL2 := Aside0.mk (put_far HC3.out.1 hne_ 0 (.slice An1 (s'.L ++ [(⟨y1', y2'⟩ : S33)]).length cn1))
                  have HCN := HC3.out.2
                  clear HH BL HB HC HC3 HB2 HO19
                  generalize hwc : wb.setCell ⟨gO, 0, none⟩ (.slice An1 (s'.L ++ [(⟨y1', y2'⟩ : S33)]).length cn1) = wc at HP HB3 BL2 ⊢
                  clear hwc
                  obtain ⟨colwc, hh_, hc_⟩ : ∃ c_, OrbH w.heap.size c_ wc gO gM n' _ _ _ _ _ _ _ ∧ c_ gl = 8 := ⟨_, HP, HCN⟩
                  have HH := Aside0.mk hh_; have HC := Aside0.mk hc_; have BL := BL2; have HB := HB3
                  clear hh_ hc_ BL2 HB3 HP HCN hne_
                  obtain ⟨AW, cW, eW⟩ := Kd.R_slice HH.out.hW
                  subst eW
                  go_upto_region 18 with (fail)
                  replace HH := Aside0.mk (HH.out.below (below_drew1 (Below.refl _ _)))
                  replace BL := Aside0.mk (blk_drew BL.out)
                  replace HB := Aside0.mk (below_drew1 HB.out)
                  obtain ⟨adw, ew, hxw⟩ := Kd.at_string (Kd.R_reads' HH.out.hW).2.2 x7 hi0 hiW
                  cases ew
                  have tw1 := eq_true hiW
                  have tw2 := decide_eq_true hiW
                  refine start_ (n := 21) (S := fun w' => w'.cell? ⟨gO, 1, none⟩ = some (.slice (some adw) s'.W.length cW) ∧ w'.cell? (adw.add (x7).toNat) = some (.string (rdOf ByteArray.empty s'.W x7))) (ds := [17, 20]) (bl_ 21 0) (by kernel_rfl) rfl (by kernel_rfl) ⟨(blk_cell HH.out.hO 1).trans rfl, hxw⟩ (fun hHeld => ?_)
                  refine with_tabW orb_tab18 orb_bits18 (fun HT_ HW_ => ?_)
                  clear hxw
                  generalize wc.drew = wd at HH BL HB hHeld ⊢
                  refine pu_ 0 (some 78) (bl_ 21 1) HT_ ?_
                  refine pu_ 1 (some 79) (bl_ 21 3) HT_ ?_
                  refine pu_ 2 (some 80) (bl_ 21 7) HT_ ?_
                  refine pu_ 3 (some 81) (bl_ 21 15) HT_ ?_
                  refine ta_ 4 (some 82) (bl_ 21 31) HT_ HW_ hHeld ?_
                  refine pu_ 5 (some 83) (bl_ 21 63) HT_ ?_
                  refine pu_ 6 (some 84) (bl_ 21 127) HT_ ?_
                  refine pu_ 7 (some 85) (bl_ 21 255) HT_ ?_
                  refine ta_ 8 (some 86) (bl_ 21 511) HT_ HW_ hHeld ?_
                  refine pu_ 9 (some 87) (bl_ 21 1023) HT_ ?_
                  refine pu_ 10 (some 88) (bl_ 21 2047) HT_ ?_
                  refine ta_ 11 (some 89) (bl_ 21 4095) HT_ HW_ hHeld ?_
                  refine pu_ 12 (some 90) (bl_ 21 8191) HT_ ?_
                  refine on_ 13 (some 91) (bl_ 21 16383) HT_ (fun K hK => ?_)
                  refine Kd.R_lit_step (Kd.int .u8) _ 5 ?hg (N := 91) ?hd (xs := ([84] : List Int)) (inner := [.int .u8 84]) (ok := fun _ => True) (okp := fun _ => True) ?hr ?hp (fun _ hk => hk) trivial (Below.refl _ _) (Nat.le_refl _) (by simp) ?_; (case hd => rfl); (case hg => rfl); (case hr => first | (go_simp; done) | (go_simp; rfl)); (case hp => exact (Reps.one (show Kd.M (Kd.int .u8) _ _ _ 84 [.int .u8 84] from rfl) (Reps.none _ _)))
                  intro vq we hoq hb hg_ hnew_
                  have hS1_ := (hb.cell (World.block_lt_of_cell? _ _ hHeld.1)).trans hHeld.1
                  have hS2_ := (hb.cell (World.block_lt_of_cell? _ _ hHeld.2)).trans hHeld.2
                  replace HH := Aside0.mk (HH.out.below hb)
                  replace BL := bb_ BL hb
                  replace HB := b1_ hb
                  have HOq := Aside0.mk hoq
                  clear hg_ hnew_ hb hoq
                  refine hK.out _ _ ⟨hS1_, hS2_⟩ (fun hHeld => ?_)
                  clear hK K hS1_ hS2_
                  refine no_ (some 91) ?_
                  refine on_ 14 (some 92) (bl_ 21 32767) HT_ (fun K hK => ?_)
                  have hcv47 := own_string (P := Try.prog) Try.underlying22 Try.underlying5 Try.underlying9 (Kd.own_of_R HOq.out)
                  refine value_ (w1 := ?_) (v := ?_) (by rfl) rfl ?_ ?_
                  rotate_left 2
                  · go_simp
                    constructor
                    · rfl
                    · rfl
                  clear hcv47 HOq
                  refine hK.out _ _ hHeld (fun hHeld => ?_)
                  clear hK K
                  refine no_ (some 92) ?_
                  have hs1_ : (strOfNums [(84 : Int)]).size = 1 := by decide +kernel
                  have tw3 : (9223372036854775807 < (rdOf ByteArray.empty s'.W x7).size + (strOfNums [(84 : Int)]).size) = False := eq_false (by rw [hs1_]; have := LS.out; omega)
                  clear hs1_
                  refine pu_ 15 (some 93) (bl_ 21 65535) HT_ ?_
                  clear tw3
                  refine on_ 16 (some 94) (bl_ 21 131071) HT_ (fun K hK => ?_)
                  refine value_ (w1 := ?_) (v := ?_) (by rfl) rfl ?_ ?_
                  rotate_left 2
                  · go_simp
                    constructor
                    · rfl
                    · rfl
                  refine hK.out _ _ ⟨((below_alloc (Below.refl _ _) _).cell (World.block_lt_of_cell? _ _ hHeld.1)).trans hHeld.1, ((below_alloc (Below.refl _ _) _).cell (World.block_lt_of_cell? _ _ hHeld.2)).trans hHeld.2⟩ (fun hHeld => ?_)
                  clear hK K
                  refine no_ (some 94) ?_
                  refine last_ (i := 17) (N := some 95) (bl_ 21 262143) rfl rfl (one_of HT_.out (by kernel_rfl)) (by decide) (fun K hK => ?_)
                  refine Kd.R_append_step Kd.string (w0 := w) w.heap.size (by rfl) (.tmp 82) (.tmp 94) 94 9 (.string ⟨#[]⟩) 16 rfl Try.underlying94 info9 rfl (by decide) (by omega) (.slice (some adw) s'.W.length cW) s'.W ((rdOf ByteArray.empty s'.W x7) ++ (strOfNums [84])) [.string ((rdOf ByteArray.empty s'.W x7) ++ (strOfNums [84]))] (fun k_ => rcl we.heap.size colwc 1 k_ = 1) (fun _ => False) rfl rfl rfl (fun _ hk => hk.elim) (fun k_ hk => rcl_new hk) (R_col HH.out.hW (fun k_ hk => rcl_old hk)) HB.out HB.out.size (by have := LN.out; omega) ?_
                  intro v2 wf ho hb hg hat
                  obtain ⟨An2, cn2, en2⟩ := Kd.R_slice ho
                  subst en2
                  have HO19 := (B_gr HH.out.hO HH.out.cO hg HH.out.hW.1 (by decide)).1
                  have HC3 := Aside0.mk (B_gr BL.out HC.out hg HH.out.hW.1 (by decide))
                  have HP := HH.out.putW hg ho
                  have HB2 := Aside0.mk hb
                  refine hK.out _ _ ?_
                  clear hK K ho hb hg hat
                  refine no_ (some 95) ?_
                  refine pu_ 18 (some 96) (bl_ 21 524287) HT_ ?_
                  refine pu_ 19 (some 97) (bl_ 21 1048575) HT_ ?_
                  refine last_ (i := 20) (N := none) (bl_ 21 2097151) rfl rfl (one_of HT_.out (by kernel_rfl)) (by decide) (fun K hK => ?_)
                  have hs19 : wf.cell? ⟨gO, 1, none⟩ = some (.slice (some adw) s'.W.length cW) := (blk_cell HO19 1).trans rfl
                  have hf19 := blk_frozen HO19 1
                  refine skip_ (w1 := wf.setCell ⟨gO, 1, none⟩ (.slice An2 (s'.W ++ [(rdOf ByteArray.empty s'.W x7) ++ (strOfNums [84])]).length cn2)) (by rfl) rfl ?_ ?_
                  · go_simp
                  refine hK.out _ _ ?_
                  clear hK K hs19 hf19
                  refine done_ (done_of HT_.out (by kernel_rfl)) ?_
                  have hne_ : gl ≠ gO := fun e => by have a1 := HC3.out.2; have a2 := HP.cO; rw [e] at a1; omega
                  have HB3 := Aside0.mk (below_set (g := gO) (j := 1) (v := (.slice An2 (s'.W ++ [(rdOf ByteArray.empty s'.W x7) ++ (strOfNums [84])]).length cn2)) HB2.out HP.bO)
                  have BL2 := Aside0.mk (put_far HC3.out.1 hne_ 1 (.slice An2 (s'.W ++ [(rdOf ByteArray.empty s'.W x7) ++ (strOfNums [84])]).length cn2))
                  have HCN := HC3.out.2
                  clear HH BL HB HC HC3 HB2 HO19
                  generalize hwc : wf.setCell ⟨gO, 1, none⟩ (.slice An2 (s'.W ++ [(rdOf ByteArray.empty s'.W x7) ++ (strOfNums [84])]).length cn2) = wg at HP HB3 BL2 ⊢
                  clear hwc
                  obtain ⟨colwg, hh_, hc_⟩ : ∃ c_, OrbH w.heap.size c_ wg gO gM n' _ _ _ _ _ _ _ ∧ c_ gl = 8 := ⟨_, HP, HCN⟩
                  have HH := Aside0.mk hh_; have HC := Aside0.mk hc_; have BL := BL2; have HB := HB3
                  clear hh_ hc_ BL2 HB3 HP HCN hne_
                  obtain ⟨AF, cF, eF⟩ := Kd.R_slice HH.out.hF
                  subst eF
                  go_upto_region 19 with (fail)
                  have hco_ : wg.cell? ⟨gO, 2, none⟩ = some (.slice AF s'.F.length cF) := (blk_cell HH.out.hO 2).trans rfl
                  have hfo_ := blk_frozen HH.out.hO 2
                  go_upto_region 20 with (first | ((with_reducible refine gate_builtin (b := .append) (xs := #[.tmp 102, .tmp 104]) rfl ?_); at_builtin; refine Kd.R_append (Kd.int .i64) (w0 := w) w.heap.size rfl (.tmp 102) (.tmp 104) 23 3 (.int .i64 0) 8 rfl Try.underlying23 info3 rfl (by decide) (by omega) (.slice AF s'.F.length cF) s'.F (x7) [.int .i64 (x7)] (fun k_ => rcl wg.heap.size colwg 2 k_ = 2) (fun _ => False) rfl rfl rfl (fun _ hk => hk.elim) (fun k_ hk => rcl_new hk) (R_col HH.out.hF (fun k_ hk => rcl_old hk)) HB.out HB.out.size (by have := LN.out; omega) ?_; intro v3 wh ho hb hg hat; obtain ⟨Anv3, cnv3, env3⟩ := Kd.R_slice ho; subst env3; rw [List.length_append, List.length_singleton] at ho; have HO19 := (B_gr HH.out.hO HH.out.cO hg HH.out.hF.1 (by decide)).1; have HC3 := Aside0.mk (B_gr BL.out HC.out hg HH.out.hF.1 (by decide)); have HP := HH.out.putF hg ho; have HB2 := Aside0.mk hb; clear ho hb hg hat hco_ hfo_; have hs19 : wh.cell? ⟨gO, 2, none⟩ = some (.slice AF s'.F.length cF) := (blk_cell HO19 2).trans rfl; have hf19 := blk_frozen HO19 2))
                  clear hs19 hf19
                  have hne_ : gl ≠ gO := fun e => by have a1 := HC3.out.2; have a2 := HP.cO; rw [e] at a1; omega
                  have HB3 := Aside0.mk (below_set (g := gO) (j := 2) (v := (.slice Anv3 (s'.F.length + 1) cnv3)) HB2.out HP.bO)
                  have BL2 := Aside0.mk (put_far HC3.out.1 hne_ 2 (.slice Anv3 (s'.F.length + 1) cnv3))
                  have HCN := HC3.out.2
                  clear HH BL HB HC HC3 HB2 HO19
                  generalize hwc : wh.setCell ⟨gO, 2, none⟩ (.slice Anv3 (s'.F.length + 1) cnv3) = wi at HP HB3 BL2 ⊢
                  clear hwc
                  obtain ⟨colwi, hh_, hc_⟩ : ∃ c_, OrbH w.heap.size c_ wi gO gM n' _ _ _ _ _ _ _ ∧ c_ gl = 8 := ⟨_, HP, HCN⟩
                  have HH := Aside0.mk hh_; have HC := Aside0.mk hc_; have BL := BL2; have HB := HB3
                  clear hh_ hc_ BL2 HB3 HP HCN hne_
                  obtain ⟨AB, cB, eB⟩ := Kd.R_slice HH.out.hB
                  subst eB
                  have hco_ : wi.cell? ⟨gO, 3, none⟩ = some (.slice AB s'.B.length cB) := (blk_cell HH.out.hO 3).trans rfl
                  have hfo_ := blk_frozen HH.out.hO 3
                  go_upto_region 21 with (first | ((with_reducible refine gate_builtin (b := .append) (xs := #[.tmp 112, .tmp 114]) rfl ?_); at_builtin; refine Kd.R_append (Kd.int .u8) (w0 := w) w.heap.size rfl (.tmp 112) (.tmp 114) 22 5 (.int .u8 0) 1 rfl Try.underlying22 info5 rfl (by decide) (by omega) (.slice AB s'.B.length cB) s'.B (84) [.int .u8 (84)] (fun k_ => rcl wi.heap.size colwi 3 k_ = 3) (fun _ => False) rfl rfl rfl (fun _ hk => hk.elim) (fun k_ hk => rcl_new hk) (R_col HH.out.hB (fun k_ hk => rcl_old hk)) HB.out HB.out.size (by have := LN.out; omega) ?_; intro v4 wj ho hb hg hat; obtain ⟨Anv4, cnv4, env4⟩ := Kd.R_slice ho; subst env4; rw [List.length_append, List.length_singleton] at ho; have HO19 := (B_gr HH.out.hO HH.out.cO hg HH.out.hB.1 (by decide)).1; have HC3 := Aside0.mk (B_gr BL.out HC.out hg HH.out.hB.1 (by decide)); have HP := HH.out.putB hg ho; have HB2 := Aside0.mk hb; clear ho hb hg hat hco_ hfo_; have hs19 : wj.cell? ⟨gO, 3, none⟩ = some (.slice AB s'.B.length cB) := (blk_cell HO19 3).trans rfl; have hf19 := blk_frozen HO19 3))
                  clear hs19 hf19
                  have hne_ : gl ≠ gO := fun e => by have a1 := HC3.out.2; have a2 := HP.cO; rw [e] at a1; omega
                  have HB3 := Aside0.mk (below_set (g := gO) (j := 3) (v := (.slice Anv4 (s'.B.length + 1) cnv4)) HB2.out HP.bO)
                  have BL2 := Aside0.mk (put_far HC3.out.1 hne_ 3 (.slice Anv4 (s'.B.length + 1) cnv4))
                  have HCN := HC3.out.2
                  clear HH BL HB HC HC3 HB2 HO19
                  generalize hwc : wj.setCell ⟨gO, 3, none⟩ (.slice Anv4 (s'.B.length + 1) cnv4) = wk at HP HB3 BL2 ⊢
                  clear hwc
                  obtain ⟨colwk, hh_, hc_⟩ : ∃ c_, OrbH w.heap.size c_ wk gO gM n' _ _ _ _ _ _ _ ∧ c_ gl = 8 := ⟨_, HP, HCN⟩
                  have HH := Aside0.mk hh_; have HC := Aside0.mk hc_; have BL := BL2; have HB := HB3
                  clear hh_ hc_ BL2 HB3 HP HCN hne_
                  generalize hcc : colwk = colc at HH HC
                  clear hcc
                  go_upto_region 21 with (fail)
                  replace HH := Aside0.mk (HH.out.below (below_drew1 (Below.refl _ _)))
                  replace BL := Aside0.mk (blk_drew BL.out)
                  replace HB := Aside0.mk (below_drew1 HB.out)
                  refine start_ (n := 15) (S := fun w' => w'.cell? ⟨gO, 4, none⟩ = some (.map (some gM)) ∧ w'.heap[gM]? = some (mapO n' vT' vS')) (ds := [14]) (bl_ 15 0) (by kernel_rfl) rfl (by kernel_rfl) ⟨(blk_cell HH.out.hO 4).trans rfl, HH.out.hM⟩ (fun hHeld => ?_)
                  refine with_tabW orb_tab21 orb_bits21 (fun HT_ HW_ => ?_)
                  generalize wk.drew = wl at HH BL HB hHeld ⊢
                  refine pu_ 0 (some 118) (bl_ 15 1) HT_ ?_
                  refine pu_ 1 (some 119) (bl_ 15 3) HT_ ?_
                  refine pu_ 2 (some 120) (bl_ 15 7) HT_ ?_
                  refine ta_ 3 (some 121) (bl_ 15 15) HT_ HW_ hHeld ?_
                  refine pu_ 4 (some 122) (bl_ 15 31) HT_ ?_
                  refine pu_ 5 (some 123) (bl_ 15 63) HT_ ?_
                  refine pu_ 6 (some 124) (bl_ 15 127) HT_ ?_
                  refine pu_ 7 (some 125) (bl_ 15 255) HT_ ?_
                  refine ta_ 8 (some 126) (bl_ 15 511) HT_ HW_ hHeld ?_
                  refine pu_ 9 (some 127) (bl_ 15 1023) HT_ ?_
                  have hlk : ∀ w', w'.heap[gM]? = some (mapO n' vT' vS') → (Instr.lookup 95 (.map (some gM)) (.int .u8 84) false).run Try.prog w' = .ok vT' w' := fun w' h_ => by
                    have hn := hn0.out
                    have := look_T h_ (by omega)
                    rw [HH.out.look.1] at this
                    exact this
                  refine ta_ 10 (some 128) (v := vT') (bl_ 15 2047) HT_ HW_ hHeld ?_ (hy := Or.inl ⟨by rfl, fun w' hs_ => ?_⟩)
                  rotate_left
                  · have hq := hlk w' hs_.2
                    go_simp
                  clear hlk
                  refine pu_ 11 (some 129) (bl_ 15 4095) HT_ ?_
                  refine on_ 12 (some 130) (bl_ 15 8191) HT_ (fun K hK => ?_)
                  refine value_ (w1 := ?_) (v := ?_) (by rfl) rfl ?_ ?_
                  rotate_left 2
                  · go_simp
                    constructor
                    · rfl
                    · rfl
                  refine hK.out _ _ ⟨((below_alloc (Below.refl _ _) _).cell (World.block_lt_of_cell? _ _ hHeld.1)).trans hHeld.1, blk_alloc hHeld.2 _⟩ (fun hHeld => ?_)
                  clear hK K
                  refine no_ (some 130) ?_
                  refine on_ 13 (some 131) (bl_ 15 16383) HT_ (fun K hK => ?_)
                  refine Kd.R_append_step (Kd.int .i64) (w0 := w) w.heap.size (by rfl) (.tmp 128) (.tmp 130) 23 3 (.int .i64 0) 8 rfl Try.underlying23 info3 rfl (by decide) (by omega) vT' s'.T ((s'.L.length : Int)) [.int .i64 ((s'.L.length : Int))] (fun k_ => rcl wl.heap.size colc 4 k_ = 4) (fun _ => False) rfl rfl rfl (fun _ hk => hk.elim) (fun k_ hk => rcl_new hk) (R_col HH.out.hT (fun k_ hk => rcl_old hk)) HB.out HB.out.size (by have := LN.out; omega) ?_
                  intro v1 wlb ho hb hg hat
                  have HP := HH.out.putT hg ho
                  have HM := Aside0.mk HP.1
                  have HO19 := (B_gr HH.out.hO HH.out.cO hg HH.out.hT.1 (by decide)).1
                  have HC3 := Aside0.mk (B_gr BL.out HC.out hg HH.out.hT.1 (by decide))
                  replace HH := Aside0.mk HP.2
                  clear HP
                  have HB2 := Aside0.mk hb
                  refine hK.out _ _ ⟨(blk_cell HO19 4).trans rfl, HM.out⟩ (fun hHeld => ?_)
                  clear hK K ho hb hg hat HO19
                  refine no_ (some 131) ?_
                  refine last_ (i := 14) (N := none) (bl_ 15 32767) rfl rfl (one_of HT_.out (by kernel_rfl)) (by decide) (fun K hK => ?_)
                  have hput : (Instr.mapUpdate 95 (.map (some gM)) (.int .u8 84) v1).run Try.prog wlb = .ok () (setMap wlb gM (max n' 1) v1 vS') := put_T HM.out hn0.out v1
                  refine skip_ (w1 := setMap wlb gM (max n' 1) v1 vS') (by rfl) rfl ?_ ?_
                  · go_simp
                  refine hK.out _ _ ?_
                  clear hK K hput
                  refine done_ (done_of HT_.out (by kernel_rfl)) ?_
                  try go_wp2
                  have hgm : gl ≠ gM := fun e => by have a1 := HC3.out.2; have a2 := HH.out.cM; rw [e] at a1; omega
                  have BL2 := Aside0.mk ((setMap_far (n := max n' 1) v1 vS' hgm).trans HC3.out.1)
                  have HB3 := Aside0.mk (setMap_below (n := max n' 1) v1 vS' HB2.out HH.out.bM)
                  go_roundg 1
                  case measure => have := HG.out; omega
                  case rel => exact ⟨1, max n' 1, _, _, _, _, _, _, _, _, (by first | rfl | (simp; done) | (simp [*]; done)), ⟨by omega⟩, ⟨by omega⟩, HT, ⟨⟨fun e => absurd e (by decide), fun _ => by have := hn0.out; omega, fun e => absurd e (by decide)⟩⟩, ⟨HC3.out.2⟩, BL2, HH, HB3⟩
              · have H := HS.out
                clear HS
                rw [if_neg hj0] at H
                have hjb := decide_eq_false hj0
                have hlen := cp_ H
                replace H := Option.some.inj (ca_ H)
                subst H
                rw [if_pos rfl, if_pos rfl] at HT
                have LN := Aside0.mk hlen
                clear hlen SL13 Y0 Y1 BX NE GX
                generalize hcc : rcl w13.heap.size col' 0 = colc at HH HC
                clear hcc
                go_upto_region 21 with (fail)
                replace HH := Aside0.mk (HH.out.below (below_drew1 (Below.refl _ _)))
                replace BL := Aside0.mk (blk_drew BL.out)
                replace HB := Aside0.mk (below_drew1 HB.out)
                refine start_ (n := 15) (S := fun w' => w'.cell? ⟨gO, 4, none⟩ = some (.map (some gM)) ∧ w'.heap[gM]? = some (mapO n' vT' vS')) (ds := [14]) (bl_ 15 0) (by kernel_rfl) rfl (by kernel_rfl) ⟨(blk_cell HH.out.hO 4).trans rfl, HH.out.hM⟩ (fun hHeld => ?_)
                refine with_tabW orb_tab21 orb_bits21 (fun HT_ HW_ => ?_)
                generalize w17.drew = w18 at HH BL HB hHeld ⊢
                refine pu_ 0 (some 118) (bl_ 15 1) HT_ ?_
                refine pu_ 1 (some 119) (bl_ 15 3) HT_ ?_
                refine pu_ 2 (some 120) (bl_ 15 7) HT_ ?_
                refine ta_ 3 (some 121) (bl_ 15 15) HT_ HW_ hHeld ?_
                refine pu_ 4 (some 122) (bl_ 15 31) HT_ ?_
                refine pu_ 5 (some 123) (bl_ 15 63) HT_ ?_
                refine pu_ 6 (some 124) (bl_ 15 127) HT_ ?_
                refine pu_ 7 (some 125) (bl_ 15 255) HT_ ?_
                refine ta_ 8 (some 126) (bl_ 15 511) HT_ HW_ hHeld ?_
                refine pu_ 9 (some 127) (bl_ 15 1023) HT_ ?_
                have hlk : ∀ w', w'.heap[gM]? = some (mapO n' vT' vS') → (Instr.lookup 95 (.map (some gM)) (.int .u8 84) false).run Try.prog w' = .ok vT' w' := fun w' h_ => by
                  have hn := hn0.out
                  have := look_T h_ (by omega)
                  rw [HH.out.look.1] at this
                  exact this
                refine ta_ 10 (some 128) (v := vT') (bl_ 15 2047) HT_ HW_ hHeld ?_ (hy := Or.inl ⟨by rfl, fun w' hs_ => ?_⟩)
                rotate_left
                · have hq := hlk w' hs_.2
                  go_simp
                clear hlk
                refine pu_ 11 (some 129) (bl_ 15 4095) HT_ ?_
                refine on_ 12 (some 130) (bl_ 15 8191) HT_ (fun K hK => ?_)
                refine value_ (w1 := ?_) (v := ?_) (by rfl) rfl ?_ ?_
                rotate_left 2
                · go_simp
                  constructor
                  · rfl
                  · rfl
                refine hK.out _ _ ⟨((below_alloc (Below.refl _ _) _).cell (World.block_lt_of_cell? _ _ hHeld.1)).trans hHeld.1, blk_alloc hHeld.2 _⟩ (fun hHeld => ?_)
                clear hK K
                refine no_ (some 130) ?_
                refine on_ 13 (some 131) (bl_ 15 16383) HT_ (fun K hK => ?_)
                refine Kd.R_append_step (Kd.int .i64) (w0 := w) w.heap.size (by rfl) (.tmp 128) (.tmp 130) 23 3 (.int .i64 0) 8 rfl Try.underlying23 info3 rfl (by decide) (by omega) vT' s'.T (j) [.int .i64 (j)] (fun k_ => rcl w18.heap.size colc 4 k_ = 4) (fun _ => False) rfl rfl rfl (fun _ hk => hk.elim) (fun k_ hk => rcl_new hk) (R_col HH.out.hT (fun k_ hk => rcl_old hk)) HB.out HB.out.size (by have := LN.out; omega) ?_
                intro v1 w18b ho hb hg hat
                have HP := HH.out.putT hg ho
                have HM := Aside0.mk HP.1
                have HO19 := (B_gr HH.out.hO HH.out.cO hg HH.out.hT.1 (by decide)).1
                have HC3 := Aside0.mk (B_gr BL.out HC.out hg HH.out.hT.1 (by decide))
                replace HH := Aside0.mk HP.2
                clear HP
                have HB2 := Aside0.mk hb
                refine hK.out _ _ ⟨(blk_cell HO19 4).trans rfl, HM.out⟩ (fun hHeld => ?_)
                clear hK K ho hb hg hat HO19
                refine no_ (some 131) ?_
                refine last_ (i := 14) (N := none) (bl_ 15 32767) rfl rfl (one_of HT_.out (by kernel_rfl)) (by decide) (fun K hK => ?_)
                have hput : (Instr.mapUpdate 95 (.map (some gM)) (.int .u8 84) v1).run Try.prog w18b = .ok () (setMap w18b gM (max n' 1) v1 vS') := put_T HM.out hn0.out v1
                refine skip_ (w1 := setMap w18b gM (max n' 1) v1 vS') (by rfl) rfl ?_ ?_
                · go_simp
                refine hK.out _ _ ?_
                clear hK K hput
                refine done_ (done_of HT_.out (by kernel_rfl)) ?_
                try go_wp2
                have hgm : gl ≠ gM := fun e => by have a1 := HC3.out.2; have a2 := HH.out.cM; rw [e] at a1; omega
                have BL2 := Aside0.mk ((setMap_far (n := max n' 1) v1 vS' hgm).trans HC3.out.1)
                have HB3 := Aside0.mk (setMap_below (n := max n' 1) v1 vS' HB2.out HH.out.bM)
                go_roundg 1
                case measure => have := HG.out; omega
                case rel => exact ⟨1, max n' 1, _, _, _, _, _, _, _, _, (by first | rfl | (simp; done) | (simp [*]; done)), ⟨by omega⟩, ⟨by omega⟩, HT, ⟨⟨fun e => absurd e (by decide), fun _ => by have := hn0.out; omega, fun e => absurd e (by decide)⟩⟩, ⟨HC3.out.2⟩, BL2, HH, HB3⟩
            · skip
              have hn0 := Aside0.mk (HN.out.2.1 rfl)
              have H := AZ.out
              clear AZ
              change innerO k1 x7 (83 :: []) s' = some z at H
              simp only [innerO] at H
              obtain ⟨zz, AS, H⟩ := bi_ H
              have HT := Aside0.mk H
              have H := AS.out
              clear AS
              unfold stpO at H
              have hi0 := cp_ H
              replace H := ca_ H
              have hi1 := cp_ H
              replace H := ca_ H
              obtain ⟨⟨x1, x2⟩, AX, H⟩ := bi_ H
              obtain ⟨⟨y1', y2', yb⟩, AY, H⟩ := bi_ H
              obtain ⟨j, AJ, H⟩ := bi_ H
              dsimp only at H AY AJ
              have HS := Aside0.mk H
              clear H
              obtain ⟨adx, Ax0, cx0, Ax1, cx1, ex, hx0, hx1, hlx0, hix0, hlx1, hix1⟩ := at_T33 (Kd.S_reads' HH.out.hL).2.2 x7 hi0 hi1
              cases ex
              have X0 := Aside0.mk hix0; have X1 := Aside0.mk hix1; have LX0 := Aside0.mk hlx0; have LX1 := Aside0.mk hlx1
              clear hix0 hix1 hlx0 hlx1
              have ti0 := eq_true hi0
              have ti1 := eq_true hi1
              have td1 := decide_eq_true hi1
              go_upto_region 12 with (first | ((with_reducible refine gate_callee (f := 70) rfl ?_); refine gL_ (some 52) Try.func70 #[.agg #[.slice Ax0 (rd_T33 s'.L x7).f0.length cx0, .slice Ax1 (rd_T33 s'.L x7).f1.length cx1], .int .u8 83] rfl qa_ ?_; (with_reducible refine (impl_letterSurface.calls k1 _ _ (rd_T33 s'.L x7).f0 _ _ (rd_T33 s'.L x7).f1 83 x1 x2 _ X0.out LX0.out X1.out LX1.out AX.out).mono ?_); rintro e w13 ⟨v0, v1, rfl, ho0, ho1, hb⟩; refine ⟨_, rfl, ?_⟩; replace HH := Aside0.mk (HH.out.below hb); replace BL := bb_ BL hb; replace HB := b1_ hb; clear hb; obtain ⟨Al0, cl0, el0⟩ := Kd.R_slice ho0; subst el0; obtain ⟨Al1, cl1, el1⟩ := Kd.R_slice ho1; subst el1; have LT0 := Aside0.mk (Kd.R_reads' ho0).2; have LT1 := Aside0.mk (Kd.R_reads' ho1).2; clear ho0 ho1) | ((with_reducible refine gate_callee (f := 17) rfl ?_); refine gL_ (some 53) Try.func17 #[.agg #[.slice Al0 x1.length cl0, .slice Al1 x2.length cl1]] rfl qa_ ?_; (with_reducible refine (impl_CanonOf.calls k1 _ _ x1 _ _ x2 y1' y2' yb _ LT0.out.2 LT0.out.1 LT1.out.2 LT1.out.1 AY.out).mono ?_); rintro e w14 ⟨v0, v1, rfl, ho0, ho1, hb⟩; refine ⟨_, rfl, ?_⟩; have ZC := Aside0.mk (below_size hB_ : w.heap.size ≤ w13.heap.size); have ZD := Aside0.mk hb.size; have SL13 := Aside0.mk (Kd.S_below (Kd.S_mono (ok' := fun k_ => col' k_ = 0 ∧ k_ < w13.heap.size) (Kd.S_bound HH.out.hL) (fun k_ hk_ => ⟨hk_.1, hk_.2.2.1⟩)) hb); replace HH := Aside0.mk ((HH.out.recol (col' := rcl w13.heap.size col' 0) (fun k hk => rcl_old hk)).below hb); replace HC := Aside0.mk ((rcl_old (blk_lt BL.out)).trans HC.out : rcl w13.heap.size col' 0 gl = 8); replace BL := bb_ BL hb; replace HB := b1_ hb; clear hb; obtain ⟨Ay0, cy0, ey0⟩ := Kd.R_slice ho0; subst ey0; obtain ⟨Ay1, cy1, ey1⟩ := Kd.R_slice ho1; subst ey1; have Y0 := Aside0.mk ho0; have Y1 := Aside0.mk ho1; clear ho0 ho1) | ((with_reducible refine gate_dst (N := 10) rfl ?_); refine bx_ 10 #[.slice none 0 0, .slice none 0 0] 33 ?_; intro gx hg w15 hbox hb; have GX := Aside0.mk (show w14.heap.size ≤ gx from Nat.le_of_eq hg.symm); have BX := Aside0.mk hbox; have B3 := Aside0.mk hb; clear hb hbox hg; obtain ⟨hcf0, hcf1, hff0, hff1⟩ := c2_ BX))
              obtain ⟨hbox, hkp, hB2⟩ := box_store (w0 := w14) BX.out (.slice Ay0 y1'.length cy0) (.slice Ay1 y2'.length cy1) B3.out GX.out
              generalize hw : ((w15.setCell ⟨gx, 0, none⟩ (.slice Ay0 y1'.length cy0)).setCell ⟨gx, 1, none⟩ (.slice Ay1 y2'.length cy1)) = w16 at hbox hkp hB2 ⊢
              clear hw hcf0 hcf1 hff0 hff1 hcl0 hcl1 hfl0 hfl1 hco0 hfo0 hx0 hx1 X0 X1 LX0 LX1 LT0 LT1
              have NE := Aside0.mk (show NeRow (.slice Ay0 y1'.length cy0) (.slice Ay1 y2'.length cy1) from fun k_ e1_ e2_ => (Y0.out.1 k_ e1_) e2_.symm)
              replace HH := Aside0.mk (HH.out.below hB2)
              replace BL := Aside0.mk (blk_below BL.out hB2)
              replace Y0 := Aside0.mk (Kd.R_below (Kd.R_bound Y0.out) hB2)
              replace Y1 := Aside0.mk (Kd.R_below (Kd.R_bound Y1.out) hB2)
              replace SL13 := Aside0.mk (Kd.S_below SL13.out hB2)
              replace HB := Aside0.mk (below_step HB.out hB2)
              replace BX := Aside0.mk (show w16.heap[gx]? = some (.cells #[.slice Ay0 y1'.length cy0, .slice Ay1 y2'.length cy1] 33 (0, 0)) from hbox)
              have ZE := Aside0.mk hB2.size
              clear hbox hkp hB2 B3
              obtain ⟨hcx0, hcx1, hfx0, hfx1⟩ := c2_ BX
              have hLr := (Kd.S_reads' HH.out.hL).2
              have RL := Aside0.mk hLr
              clear hLr
              go_upto_region 13 with (first | ((with_reducible refine gate_callee (f := 133) rfl ?_); refine gL_ (some 58) Try.func133 #[.pointer (some ⟨gO, 0, none⟩), .agg #[.slice Ay0 y1'.length cy0, .slice Ay1 y2'.length cy1]] rfl qa_ ?_; (with_reducible refine (index_calls k1 gO _ _ s'.L _ _ _ _ _ _ y1' _ _ y2' j _ RL.out.2 RL.out.1 (Kd.R_reads' Y0.out).2.2 (Kd.R_reads' Y0.out).2.1 (Kd.R_reads' Y1.out).2.2 (Kd.R_reads' Y1.out).2.1 HH.out.hO AJ.out).mono ?_); rintro e w17 ⟨rfl, hb⟩; refine ⟨_, rfl, ?_⟩; have ZF := Aside0.mk hb.size; replace HH := Aside0.mk (HH.out.below hb); replace BL := bb_ BL hb; replace BX := bb_ BX hb; replace Y0 := Aside0.mk (Kd.R_below Y0.out hb); replace Y1 := Aside0.mk (Kd.R_below Y1.out hb); replace SL13 := Aside0.mk (Kd.S_below SL13.out hb); replace HB := b1_ hb; clear hb))
              clear hcx0 hcx1 hfx0 hfx1 RL
              have ZW := Aside0.mk (show w13.heap.size ≤ w17.heap.size from Nat.le_trans ZD.out (Nat.le_trans ZE.out ZF.out))
              clear ZD ZE ZF
              by_cases hj0 : j < 0
              · have H := HS.out
                clear HS
                rw [if_pos hj0] at H
                have hjb := decide_eq_true hj0
                have hco0 : w17.cell? ⟨gO, 0, none⟩ = some (.slice (some adx) s'.L.length cL') := (blk_cell HH.out.hO 0).trans rfl
                have hfo0 := blk_frozen HH.out.hO 0
                by_cases hq5 : (s'.L.length : Int) = 120
                · rw [if_pos hq5] at H
                  obtain rfl := Option.some.inj H
                  clear H
                  have hzn : z = none := (Option.some.inj HT.out).symm
                  subst hzn
                  have hRn : R = none := (Option.some.inj HR.out).symm
                  subst hRn
                  have e5b : ((s'.L.length : Int) == 120) = true := beq_iff_eq.mpr hq5
                  clear hq5
                  go_wp2
                  go_ret2
                  exact ⟨qb_, hB_⟩
                · rw [if_neg hq5] at H
                  have e5b : ((s'.L.length : Int) == 120) = false := beq_eq_false_iff_ne.mpr hq5
                  clear hq5
                  have hlen := cp_ H
                  replace H := ca_ H
                  have hiW := cp_ H
                  replace H := ca_ H
                  have hsz := cp_ H
                  replace H := Option.some.inj (ca_ H)
                  subst H
                  rw [if_neg (by decide), if_neg (by decide)] at HT
                  have LN := Aside0.mk hlen
                  have LS := Aside0.mk hsz
                  clear hlen hsz
                  go_upto_region 17 with (fail)
                  clear hco0 hfo0 e5b
                  replace HH := Aside0.mk (HH.out.below (below_drew1 (Below.refl _ _)))
                  replace BL := Aside0.mk (blk_drew BL.out)
                  replace BX := Aside0.mk (blk_drew BX.out)
                  replace HB := Aside0.mk (below_drew1 HB.out)
                  replace Y0 := Aside0.mk (Kd.R_bound (Kd.R_drew Y0.out))
                  replace Y1 := Aside0.mk (Kd.R_bound (Kd.R_drew Y1.out))
                  replace SL13 := Aside0.mk (Kd.S_drew SL13.out)
                  replace ZW := Aside0.mk (show w13.heap.size ≤ w17.drew.heap.size from ZW.out)
                  refine start_ (n := 11) (S := fun w' => w'.cell? ⟨gO, 0, none⟩ = some (.slice (some adx) s'.L.length cL') ∧ w'.cell? ⟨gx, 0, none⟩ = some (.slice Ay0 y1'.length cy0) ∧ w'.cell? ⟨gx, 1, none⟩ = some (.slice Ay1 y2'.length cy1)) (ds := [7, 10]) (bl_ 11 0) (by kernel_rfl) rfl (by kernel_rfl) ⟨(blk_cell HH.out.hO 0).trans rfl, (blk_cell BX.out 0).trans rfl, (blk_cell BX.out 1).trans rfl⟩ (fun hHeld => ?_)
                  refine with_tabW orb_tab17 orb_bits17 (fun HT_ HW_ => ?_)
                  generalize w17.drew = wa at HH BL BX HB Y0 Y1 SL13 ZW hHeld ⊢
                  refine pu_ 0 (some 68) (bl_ 11 1) HT_ ?_
                  refine pu_ 1 (some 69) (bl_ 11 3) HT_ ?_
                  refine pu_ 2 (some 70) (bl_ 11 7) HT_ ?_
                  refine pu_ 3 (some 71) (bl_ 11 15) HT_ ?_
                  refine ta_ 4 (some 72) (bl_ 11 31) HT_ HW_ hHeld ?_
                  refine ta_ 5 (some 73) (bl_ 11 63) HT_ HW_ hHeld ?_
                  refine on_ 6 (some 74) (bl_ 11 127) HT_ (fun K hK => ?_)
                  refine value_ (w1 := ?_) (v := ?_) (by rfl) rfl ?_ ?_
                  rotate_left 2
                  · go_simp
                    constructor
                    · rfl
                    · rfl
                  refine hK.out _ _ ⟨((below_alloc (Below.refl _ _) _).cell (World.block_lt_of_cell? _ _ hHeld.1)).trans hHeld.1, ((below_alloc (Below.refl _ _) _).cell (World.block_lt_of_cell? _ _ hHeld.2.1)).trans hHeld.2.1, ((below_alloc (Below.refl _ _) _).cell (World.block_lt_of_cell? _ _ hHeld.2.2)).trans hHeld.2.2⟩ (fun hHeld => ?_)
                  clear hK K
                  refine no_ (some 74) ?_
                  refine last_ (i := 7) (N := some 75) (bl_ 11 255) rfl rfl (one_of HT_.out (by kernel_rfl)) (by decide) (fun K hK => ?_)
                  refine Kd.S_append_step k33 (w0 := w) w.heap.size (by rfl) (.tmp 72) (.tmp 74) 25 33 (.agg #[(.slice none 0 0), (.slice none 0 0)]) 48 rfl Try.underlying25 info33 rfl (by decide) (by omega) (.slice (some adx) s'.L.length cL') s'.L (⟨y1', y2'⟩ : S33) [.slice Ay0 y1'.length cy0, .slice Ay1 y2'.length cy1] (fun k_ => rcl wa.heap.size (rcl w13.heap.size col' 0) 0 k_ = 0) (fun k_ => w13.heap.size ≤ k_ ∧ k_ < wa.heap.size) rfl rfl ?aP ?aQ (fun k_ hk => rcl_new hk) ?aO HB.out HB.out.size (by have := LN.out; omega) ?_
                  case aP => exact k33_mkM _ _ _ (⟨y1', y2'⟩ : S33) (Kd.R_mono (Kd.R_lower Y0.out ZC.out) (fun k_ hk => ⟨hk.2.1, hk.2.2.1⟩)) (Kd.R_mono (Kd.R_lower Y1.out ZC.out) (fun k_ hk => ⟨hk.2.1, hk.2.2.1⟩)) NE.out
                  case aQ => exact fun k_ hk => ⟨(rcl_old hk.2).trans (rcl_new hk.1), fun e => by have := ((Kd.S_R SL13.out).1 k_ e.symm).2; have := hk.1; omega⟩
                  case aO => exact Kd.S_mono SL13.out (fun k_ hk => ⟨(rcl_old (Nat.lt_of_lt_of_le hk.2 ZW.out)).trans ((rcl_old hk.2).trans hk.1), fun h_ => by have := hk.2; have := h_.1; omega⟩)
                  intro v1 wb ho hb hg hat
                  obtain ⟨An1, cn1, en1⟩ := Kd.S_slice ho
                  subst en1
                  have HO19 := (B_gr HH.out.hO HH.out.cO hg (Kd.S_R HH.out.hL).1 (by decide)).1
                  have HC3 := Aside0.mk (B_gr BL.out HC.out hg (Kd.S_R HH.out.hL).1 (by decide))
                  have HP := HH.out.putL hg ho
                  have HB2 := Aside0.mk hb
                  refine hK.out _ _ ?_
                  clear hK K ho hb hg hat SL13 Y0 Y1 BX NE GX
                  refine no_ (some 75) ?_
                  refine pu_ 8 (some 76) (bl_ 11 511) HT_ ?_
                  refine pu_ 9 (some 77) (bl_ 11 1023) HT_ ?_
                  refine last_ (i := 10) (N := none) (bl_ 11 2047) rfl rfl (one_of HT_.out (by kernel_rfl)) (by decide) (fun K hK => ?_)
                  have hs19 : wb.cell? ⟨gO, 0, none⟩ = some (.slice (some adx) s'.L.length cL') := (blk_cell HO19 0).trans rfl
                  have hf19 := blk_frozen HO19 0
                  refine skip_ (w1 := wb.setCell ⟨gO, 0, none⟩ (.slice An1 (s'.L ++ [(⟨y1', y2'⟩ : S33)]).length cn1)) (by rfl) rfl ?_ ?_
                  · go_simp
                  refine hK.out _ _ ?_
                  clear hK K hs19 hf19
                  refine done_ (done_of HT_.out (by kernel_rfl)) ?_
                  have hne_ : gl ≠ gO := fun e => by have a1 := HC3.out.2; have a2 := HP.cO; rw [e] at a1; omega
                  have HB3 := Aside0.mk (below_set (g := gO) (j := 0) (v := (.slice An1 (s'.L ++ [(⟨y1', y2'⟩ : S33)]).length cn1)) HB2.out HP.bO)
                  have BL2 := Aside0.mk (put_far HC3.out.1 hne_ 0 (.slice An1 (s'.L ++ [(⟨y1', y2'⟩ : S33)]).length cn1))
                  have HCN := HC3.out.2
                  clear HH BL HB HC HC3 HB2 HO19
                  generalize hwc : wb.setCell ⟨gO, 0, none⟩ (.slice An1 (s'.L ++ [(⟨y1', y2'⟩ : S33)]).length cn1) = wc at HP HB3 BL2 ⊢
                  clear hwc
                  obtain ⟨colwc, hh_, hc_⟩ : ∃ c_, OrbH w.heap.size c_ wc gO gM n' _ _ _ _ _ _ _ ∧ c_ gl = 8 := ⟨_, HP, HCN⟩
                  have HH := Aside0.mk hh_; have HC := Aside0.mk hc_; have BL := BL2; have HB := HB3
                  clear hh_ hc_ BL2 HB3 HP HCN hne_
                  obtain ⟨AW, cW, eW⟩ := Kd.R_slice HH.out.hW
                  subst eW
                  go_upto_region 18 with (fail)
                  replace HH := Aside0.mk (HH.out.below (below_drew1 (Below.refl _ _)))
                  replace BL := Aside0.mk (blk_drew BL.out)
                  replace HB := Aside0.mk (below_drew1 HB.out)
                  obtain ⟨adw, ew, hxw⟩ := Kd.at_string (Kd.R_reads' HH.out.hW).2.2 x7 hi0 hiW
                  cases ew
                  have tw1 := eq_true hiW
                  have tw2 := decide_eq_true hiW
                  refine start_ (n := 21) (S := fun w' => w'.cell? ⟨gO, 1, none⟩ = some (.slice (some adw) s'.W.length cW) ∧ w'.cell? (adw.add (x7).toNat) = some (.string (rdOf ByteArray.empty s'.W x7))) (ds := [17, 20]) (bl_ 21 0) (by kernel_rfl) rfl (by kernel_rfl) ⟨(blk_cell HH.out.hO 1).trans rfl, hxw⟩ (fun hHeld => ?_)
                  refine with_tabW orb_tab18 orb_bits18 (fun HT_ HW_ => ?_)
                  clear hxw
                  generalize wc.drew = wd at HH BL HB hHeld ⊢
                  refine pu_ 0 (some 78) (bl_ 21 1) HT_ ?_
                  refine pu_ 1 (some 79) (bl_ 21 3) HT_ ?_
                  refine pu_ 2 (some 80) (bl_ 21 7) HT_ ?_
                  refine pu_ 3 (some 81) (bl_ 21 15) HT_ ?_
                  refine ta_ 4 (some 82) (bl_ 21 31) HT_ HW_ hHeld ?_
                  refine pu_ 5 (some 83) (bl_ 21 63) HT_ ?_
                  refine pu_ 6 (some 84) (bl_ 21 127) HT_ ?_
                  refine pu_ 7 (some 85) (bl_ 21 255) HT_ ?_
                  refine ta_ 8 (some 86) (bl_ 21 511) HT_ HW_ hHeld ?_
                  refine pu_ 9 (some 87) (bl_ 21 1023) HT_ ?_
                  refine pu_ 10 (some 88) (bl_ 21 2047) HT_ ?_
                  refine ta_ 11 (some 89) (bl_ 21 4095) HT_ HW_ hHeld ?_
                  refine pu_ 12 (some 90) (bl_ 21 8191) HT_ ?_
                  refine on_ 13 (some 91) (bl_ 21 16383) HT_ (fun K hK => ?_)
                  refine Kd.R_lit_step (Kd.int .u8) _ 5 ?hg (N := 91) ?hd (xs := ([83] : List Int)) (inner := [.int .u8 83]) (ok := fun _ => True) (okp := fun _ => True) ?hr ?hp (fun _ hk => hk) trivial (Below.refl _ _) (Nat.le_refl _) (by simp) ?_; (case hd => rfl); (case hg => rfl); (case hr => first | (go_simp; done) | (go_simp; rfl)); (case hp => exact (Reps.one (show Kd.M (Kd.int .u8) _ _ _ 83 [.int .u8 83] from rfl) (Reps.none _ _)))
                  intro vq we hoq hb hg_ hnew_
                  have hS1_ := (hb.cell (World.block_lt_of_cell? _ _ hHeld.1)).trans hHeld.1
                  have hS2_ := (hb.cell (World.block_lt_of_cell? _ _ hHeld.2)).trans hHeld.2
                  replace HH := Aside0.mk (HH.out.below hb)
                  replace BL := bb_ BL hb
                  replace HB := b1_ hb
                  have HOq := Aside0.mk hoq
                  clear hg_ hnew_ hb hoq
                  refine hK.out _ _ ⟨hS1_, hS2_⟩ (fun hHeld => ?_)
                  clear hK K hS1_ hS2_
                  refine no_ (some 91) ?_
                  refine on_ 14 (some 92) (bl_ 21 32767) HT_ (fun K hK => ?_)
                  have hcv47 := own_string (P := Try.prog) Try.underlying22 Try.underlying5 Try.underlying9 (Kd.own_of_R HOq.out)
                  refine value_ (w1 := ?_) (v := ?_) (by rfl) rfl ?_ ?_
                  rotate_left 2
                  · go_simp
                    constructor
                    · rfl
                    · rfl
                  clear hcv47 HOq
                  refine hK.out _ _ hHeld (fun hHeld => ?_)
                  clear hK K
                  refine no_ (some 92) ?_
                  have hs1_ : (strOfNums [(83 : Int)]).size = 1 := by decide +kernel
                  have tw3 : (9223372036854775807 < (rdOf ByteArray.empty s'.W x7).size + (strOfNums [(83 : Int)]).size) = False := eq_false (by rw [hs1_]; have := LS.out; omega)
                  clear hs1_
                  refine pu_ 15 (some 93) (bl_ 21 65535) HT_ ?_
                  clear tw3
                  refine on_ 16 (some 94) (bl_ 21 131071) HT_ (fun K hK => ?_)
                  refine value_ (w1 := ?_) (v := ?_) (by rfl) rfl ?_ ?_
                  rotate_left 2
                  · go_simp
                    constructor
                    · rfl
                    · rfl
                  refine hK.out _ _ ⟨((below_alloc (Below.refl _ _) _).cell (World.block_lt_of_cell? _ _ hHeld.1)).trans hHeld.1, ((below_alloc (Below.refl _ _) _).cell (World.block_lt_of_cell? _ _ hHeld.2)).trans hHeld.2⟩ (fun hHeld => ?_)
                  clear hK K
                  refine no_ (some 94) ?_
                  refine last_ (i := 17) (N := some 95) (bl_ 21 262143) rfl rfl (one_of HT_.out (by kernel_rfl)) (by decide) (fun K hK => ?_)
                  refine Kd.R_append_step Kd.string (w0 := w) w.heap.size (by rfl) (.tmp 82) (.tmp 94) 94 9 (.string ⟨#[]⟩) 16 rfl Try.underlying94 info9 rfl (by decide) (by omega) (.slice (some adw) s'.W.length cW) s'.W ((rdOf ByteArray.empty s'.W x7) ++ (strOfNums [83])) [.string ((rdOf ByteArray.empty s'.W x7) ++ (strOfNums [83]))] (fun k_ => rcl we.heap.size colwc 1 k_ = 1) (fun _ => False) rfl rfl rfl (fun _ hk => hk.elim) (fun k_ hk => rcl_new hk) (R_col HH.out.hW (fun k_ hk => rcl_old hk)) HB.out HB.out.size (by have := LN.out; omega) ?_
                  intro v2 wf ho hb hg hat
                  obtain ⟨An2, cn2, en2⟩ := Kd.R_slice ho
                  subst en2
                  have HO19 := (B_gr HH.out.hO HH.out.cO hg HH.out.hW.1 (by decide)).1
                  have HC3 := Aside0.mk (B_gr BL.out HC.out hg HH.out.hW.1 (by decide))
                  have HP := HH.out.putW hg ho
                  have HB2 := Aside0.mk hb
                  refine hK.out _ _ ?_
                  clear hK K ho hb hg hat
                  refine no_ (some 95) ?_
                  refine pu_ 18 (some 96) (bl_ 21 524287) HT_ ?_
                  refine pu_ 19 (some 97) (bl_ 21 1048575) HT_ ?_
                  refine last_ (i := 20) (N := none) (bl_ 21 2097151) rfl rfl (one_of HT_.out (by kernel_rfl)) (by decide) (fun K hK => ?_)
                  have hs19 : wf.cell? ⟨gO, 1, none⟩ = some (.slice (some adw) s'.W.length cW) := (blk_cell HO19 1).trans rfl
                  have hf19 := blk_frozen HO19 1
                  refine skip_ (w1 := wf.setCell ⟨gO, 1, none⟩ (.slice An2 (s'.W ++ [(rdOf ByteArray.empty s'.W x7) ++ (strOfNums [83])]).length cn2)) (by rfl) rfl ?_ ?_
                  · go_simp
                  refine hK.out _ _ ?_
                  clear hK K hs19 hf19
                  refine done_ (done_of HT_.out (by kernel_rfl)) ?_
                  have hne_ : gl ≠ gO := fun e => by have a1 := HC3.out.2; have a2 := HP.cO; rw [e] at a1; omega
                  have HB3 := Aside0.mk (below_set (g := gO) (j := 1) (v := (.slice An2 (s'.W ++ [(rdOf ByteArray.empty s'.W x7) ++ (strOfNums [83])]).length cn2)) HB2.out HP.bO)
                  have BL2 := Aside0.mk (put_far HC3.out.1 hne_ 1 (.slice An2 (s'.W ++ [(rdOf ByteArray.empty s'.W x7) ++ (strOfNums [83])]).length cn2))
                  have HCN := HC3.out.2
                  clear HH BL HB HC HC3 HB2 HO19
                  generalize hwc : wf.setCell ⟨gO, 1, none⟩ (.slice An2 (s'.W ++ [(rdOf ByteArray.empty s'.W x7) ++ (strOfNums [83])]).length cn2) = wg at HP HB3 BL2 ⊢
                  clear hwc
                  obtain ⟨colwg, hh_, hc_⟩ : ∃ c_, OrbH w.heap.size c_ wg gO gM n' _ _ _ _ _ _ _ ∧ c_ gl = 8 := ⟨_, HP, HCN⟩
                  have HH := Aside0.mk hh_; have HC := Aside0.mk hc_; have BL := BL2; have HB := HB3
                  clear hh_ hc_ BL2 HB3 HP HCN hne_
                  obtain ⟨AF, cF, eF⟩ := Kd.R_slice HH.out.hF
                  subst eF
                  go_upto_region 19 with (fail)
                  have hco_ : wg.cell? ⟨gO, 2, none⟩ = some (.slice AF s'.F.length cF) := (blk_cell HH.out.hO 2).trans rfl
                  have hfo_ := blk_frozen HH.out.hO 2
                  go_upto_region 20 with (first | ((with_reducible refine gate_builtin (b := .append) (xs := #[.tmp 102, .tmp 104]) rfl ?_); at_builtin; refine Kd.R_append (Kd.int .i64) (w0 := w) w.heap.size rfl (.tmp 102) (.tmp 104) 23 3 (.int .i64 0) 8 rfl Try.underlying23 info3 rfl (by decide) (by omega) (.slice AF s'.F.length cF) s'.F (x7) [.int .i64 (x7)] (fun k_ => rcl wg.heap.size colwg 2 k_ = 2) (fun _ => False) rfl rfl rfl (fun _ hk => hk.elim) (fun k_ hk => rcl_new hk) (R_col HH.out.hF (fun k_ hk => rcl_old hk)) HB.out HB.out.size (by have := LN.out; omega) ?_; intro v3 wh ho hb hg hat; obtain ⟨Anv3, cnv3, env3⟩ := Kd.R_slice ho; subst env3; rw [List.length_append, List.length_singleton] at ho; have HO19 := (B_gr HH.out.hO HH.out.cO hg HH.out.hF.1 (by decide)).1; have HC3 := Aside0.mk (B_gr BL.out HC.out hg HH.out.hF.1 (by decide)); have HP := HH.out.putF hg ho; have HB2 := Aside0.mk hb; clear ho hb hg hat hco_ hfo_; have hs19 : wh.cell? ⟨gO, 2, none⟩ = some (.slice AF s'.F.length cF) := (blk_cell HO19 2).trans rfl; have hf19 := blk_frozen HO19 2))
                  clear hs19 hf19
                  have hne_ : gl ≠ gO := fun e => by have a1 := HC3.out.2; have a2 := HP.cO; rw [e] at a1; omega
                  have HB3 := Aside0.mk (below_set (g := gO) (j := 2) (v := (.slice Anv3 (s'.F.length + 1) cnv3)) HB2.out HP.bO)
                  have BL2 := Aside0.mk (put_far HC3.out.1 hne_ 2 (.slice Anv3 (s'.F.length + 1) cnv3))
                  have HCN := HC3.out.2
                  clear HH BL HB HC HC3 HB2 HO19
                  generalize hwc : wh.setCell ⟨gO, 2, none⟩ (.slice Anv3 (s'.F.length + 1) cnv3) = wi at HP HB3 BL2 ⊢
                  clear hwc
                  obtain ⟨colwi, hh_, hc_⟩ : ∃ c_, OrbH w.heap.size c_ wi gO gM n' _ _ _ _ _ _ _ ∧ c_ gl = 8 := ⟨_, HP, HCN⟩
                  have HH := Aside0.mk hh_; have HC := Aside0.mk hc_; have BL := BL2; have HB := HB3
                  clear hh_ hc_ BL2 HB3 HP HCN hne_
                  obtain ⟨AB, cB, eB⟩ := Kd.R_slice HH.out.hB
                  subst eB
                  have hco_ : wi.cell? ⟨gO, 3, none⟩ = some (.slice AB s'.B.length cB) := (blk_cell HH.out.hO 3).trans rfl
                  have hfo_ := blk_frozen HH.out.hO 3
                  go_upto_region 21 with (first | ((with_reducible refine gate_builtin (b := .append) (xs := #[.tmp 112, .tmp 114]) rfl ?_); at_builtin; refine Kd.R_append (Kd.int .u8) (w0 := w) w.heap.size rfl (.tmp 112) (.tmp 114) 22 5 (.int .u8 0) 1 rfl Try.underlying22 info5 rfl (by decide) (by omega) (.slice AB s'.B.length cB) s'.B (83) [.int .u8 (83)] (fun k_ => rcl wi.heap.size colwi 3 k_ = 3) (fun _ => False) rfl rfl rfl (fun _ hk => hk.elim) (fun k_ hk => rcl_new hk) (R_col HH.out.hB (fun k_ hk => rcl_old hk)) HB.out HB.out.size (by have := LN.out; omega) ?_; intro v4 wj ho hb hg hat; obtain ⟨Anv4, cnv4, env4⟩ := Kd.R_slice ho; subst env4; rw [List.length_append, List.length_singleton] at ho; have HO19 := (B_gr HH.out.hO HH.out.cO hg HH.out.hB.1 (by decide)).1; have HC3 := Aside0.mk (B_gr BL.out HC.out hg HH.out.hB.1 (by decide)); have HP := HH.out.putB hg ho; have HB2 := Aside0.mk hb; clear ho hb hg hat hco_ hfo_; have hs19 : wj.cell? ⟨gO, 3, none⟩ = some (.slice AB s'.B.length cB) := (blk_cell HO19 3).trans rfl; have hf19 := blk_frozen HO19 3))
                  clear hs19 hf19
                  have hne_ : gl ≠ gO := fun e => by have a1 := HC3.out.2; have a2 := HP.cO; rw [e] at a1; omega
                  have HB3 := Aside0.mk (below_set (g := gO) (j := 3) (v := (.slice Anv4 (s'.B.length + 1) cnv4)) HB2.out HP.bO)
                  have BL2 := Aside0.mk (put_far HC3.out.1 hne_ 3 (.slice Anv4 (s'.B.length + 1) cnv4))
                  have HCN := HC3.out.2
                  clear HH BL HB HC HC3 HB2 HO19
                  generalize hwc : wj.setCell ⟨gO, 3, none⟩ (.slice Anv4 (s'.B.length + 1) cnv4) = wk at HP HB3 BL2 ⊢
                  clear hwc
                  obtain ⟨colwk, hh_, hc_⟩ : ∃ c_, OrbH w.heap.size c_ wk gO gM n' _ _ _ _ _ _ _ ∧ c_ gl = 8 := ⟨_, HP, HCN⟩
                  have HH := Aside0.mk hh_; have HC := Aside0.mk hc_; have BL := BL2; have HB := HB3
                  clear hh_ hc_ BL2 HB3 HP HCN hne_
                  generalize hcc : colwk = colc at HH HC
                  clear hcc
                  go_upto_region 21 with (fail)
                  replace HH := Aside0.mk (HH.out.below (below_drew1 (Below.refl _ _)))
                  replace BL := Aside0.mk (blk_drew BL.out)
                  replace HB := Aside0.mk (below_drew1 HB.out)
                  refine start_ (n := 15) (S := fun w' => w'.cell? ⟨gO, 4, none⟩ = some (.map (some gM)) ∧ w'.heap[gM]? = some (mapO n' vT' vS')) (ds := [14]) (bl_ 15 0) (by kernel_rfl) rfl (by kernel_rfl) ⟨(blk_cell HH.out.hO 4).trans rfl, HH.out.hM⟩ (fun hHeld => ?_)
                  refine with_tabW orb_tab21 orb_bits21 (fun HT_ HW_ => ?_)
                  generalize wk.drew = wl at HH BL HB hHeld ⊢
                  refine pu_ 0 (some 118) (bl_ 15 1) HT_ ?_
                  refine pu_ 1 (some 119) (bl_ 15 3) HT_ ?_
                  refine pu_ 2 (some 120) (bl_ 15 7) HT_ ?_
                  refine ta_ 3 (some 121) (bl_ 15 15) HT_ HW_ hHeld ?_
                  refine pu_ 4 (some 122) (bl_ 15 31) HT_ ?_
                  refine pu_ 5 (some 123) (bl_ 15 63) HT_ ?_
                  refine pu_ 6 (some 124) (bl_ 15 127) HT_ ?_
                  refine pu_ 7 (some 125) (bl_ 15 255) HT_ ?_
                  refine ta_ 8 (some 126) (bl_ 15 511) HT_ HW_ hHeld ?_
                  refine pu_ 9 (some 127) (bl_ 15 1023) HT_ ?_
                  have hlk : ∀ w', w'.heap[gM]? = some (mapO n' vT' vS') → (Instr.lookup 95 (.map (some gM)) (.int .u8 83) false).run Try.prog w' = .ok vS' w' := fun w' h_ => by
                    have hn := hn0.out
                    have := look_S h_ (by omega)
                    rw [HH.out.look.2] at this
                    exact this
                  refine ta_ 10 (some 128) (v := vS') (bl_ 15 2047) HT_ HW_ hHeld ?_ (hy := Or.inl ⟨by rfl, fun w' hs_ => ?_⟩)
                  rotate_left
                  · have hq := hlk w' hs_.2
                    go_simp
                  clear hlk
                  refine pu_ 11 (some 129) (bl_ 15 4095) HT_ ?_
                  refine on_ 12 (some 130) (bl_ 15 8191) HT_ (fun K hK => ?_)
                  refine value_ (w1 := ?_) (v := ?_) (by rfl) rfl ?_ ?_
                  rotate_left 2
                  · go_simp
                    constructor
                    · rfl
                    · rfl
                  refine hK.out _ _ ⟨((below_alloc (Below.refl _ _) _).cell (World.block_lt_of_cell? _ _ hHeld.1)).trans hHeld.1, blk_alloc hHeld.2 _⟩ (fun hHeld => ?_)
                  clear hK K
                  refine no_ (some 130) ?_
                  refine on_ 13 (some 131) (bl_ 15 16383) HT_ (fun K hK => ?_)
                  refine Kd.R_append_step (Kd.int .i64) (w0 := w) w.heap.size (by rfl) (.tmp 128) (.tmp 130) 23 3 (.int .i64 0) 8 rfl Try.underlying23 info3 rfl (by decide) (by omega) vS' s'.S ((s'.L.length : Int)) [.int .i64 ((s'.L.length : Int))] (fun k_ => rcl wl.heap.size colc 5 k_ = 5) (fun _ => False) rfl rfl rfl (fun _ hk => hk.elim) (fun k_ hk => rcl_new hk) (R_col HH.out.hS (fun k_ hk => rcl_old hk)) HB.out HB.out.size (by have := LN.out; omega) ?_
                  intro v1 wlb ho hb hg hat
                  have HP := HH.out.putS hn0.out hg ho
                  have HM := Aside0.mk HP.1
                  have HO19 := (B_gr HH.out.hO HH.out.cO hg HH.out.hS.1 (by decide)).1
                  have HC3 := Aside0.mk (B_gr BL.out HC.out hg HH.out.hS.1 (by decide))
                  replace HH := Aside0.mk HP.2
                  clear HP
                  have HB2 := Aside0.mk hb
                  refine hK.out _ _ ⟨(blk_cell HO19 4).trans rfl, HM.out⟩ (fun hHeld => ?_)
                  clear hK K ho hb hg hat HO19
                  refine no_ (some 131) ?_
                  refine last_ (i := 14) (N := none) (bl_ 15 32767) rfl rfl (one_of HT_.out (by kernel_rfl)) (by decide) (fun K hK => ?_)
                  have hput : (Instr.mapUpdate 95 (.map (some gM)) (.int .u8 83) v1).run Try.prog wlb = .ok () (setMap wlb gM 2 vT' v1) := put_S HM.out hn0.out v1
                  refine skip_ (w1 := setMap wlb gM 2 vT' v1) (by rfl) rfl ?_ ?_
                  · go_simp
                  refine hK.out _ _ ?_
                  clear hK K hput
                  refine done_ (done_of HT_.out (by kernel_rfl)) ?_
                  try go_wp2
                  have hgm : gl ≠ gM := fun e => by have a1 := HC3.out.2; have a2 := HH.out.cM; rw [e] at a1; omega
                  have BL2 := Aside0.mk ((setMap_far (n := 2) vT' v1 hgm).trans HC3.out.1)
                  have HB3 := Aside0.mk (setMap_below (n := 2) vT' v1 HB2.out HH.out.bM)
                  go_roundg 0
                  case measure => have := HG.out; omega
                  case rel => exact ⟨2, 2, _, _, _, _, _, _, _, _, (by first | rfl | (simp; done) | (simp [*]; done)), ⟨by omega⟩, ⟨by omega⟩, HT, ⟨⟨fun e => absurd e (by decide), fun e => absurd e (by decide), fun _ => rfl⟩⟩, ⟨HC3.out.2⟩, BL2, HH, HB3⟩
              · have H := HS.out
                clear HS
                rw [if_neg hj0] at H
                have hjb := decide_eq_false hj0
                have hlen := cp_ H
                replace H := Option.some.inj (ca_ H)
                subst H
                rw [if_neg (by decide), if_neg (by decide)] at HT
                have LN := Aside0.mk hlen
                clear hlen SL13 Y0 Y1 BX NE GX
                generalize hcc : rcl w13.heap.size col' 0 = colc at HH HC
                clear hcc
                go_upto_region 21 with (fail)
                replace HH := Aside0.mk (HH.out.below (below_drew1 (Below.refl _ _)))
                replace BL := Aside0.mk (blk_drew BL.out)
                replace HB := Aside0.mk (below_drew1 HB.out)
                refine start_ (n := 15) (S := fun w' => w'.cell? ⟨gO, 4, none⟩ = some (.map (some gM)) ∧ w'.heap[gM]? = some (mapO n' vT' vS')) (ds := [14]) (bl_ 15 0) (by kernel_rfl) rfl (by kernel_rfl) ⟨(blk_cell HH.out.hO 4).trans rfl, HH.out.hM⟩ (fun hHeld => ?_)
                refine with_tabW orb_tab21 orb_bits21 (fun HT_ HW_ => ?_)
                generalize w17.drew = w18 at HH BL HB hHeld ⊢
                refine pu_ 0 (some 118) (bl_ 15 1) HT_ ?_
                refine pu_ 1 (some 119) (bl_ 15 3) HT_ ?_
                refine pu_ 2 (some 120) (bl_ 15 7) HT_ ?_
                refine ta_ 3 (some 121) (bl_ 15 15) HT_ HW_ hHeld ?_
                refine pu_ 4 (some 122) (bl_ 15 31) HT_ ?_
                refine pu_ 5 (some 123) (bl_ 15 63) HT_ ?_
                refine pu_ 6 (some 124) (bl_ 15 127) HT_ ?_
                refine pu_ 7 (some 125) (bl_ 15 255) HT_ ?_
                refine ta_ 8 (some 126) (bl_ 15 511) HT_ HW_ hHeld ?_
                refine pu_ 9 (some 127) (bl_ 15 1023) HT_ ?_
                have hlk : ∀ w', w'.heap[gM]? = some (mapO n' vT' vS') → (Instr.lookup 95 (.map (some gM)) (.int .u8 83) false).run Try.prog w' = .ok vS' w' := fun w' h_ => by
                  have hn := hn0.out
                  have := look_S h_ (by omega)
                  rw [HH.out.look.2] at this
                  exact this
                refine ta_ 10 (some 128) (v := vS') (bl_ 15 2047) HT_ HW_ hHeld ?_ (hy := Or.inl ⟨by rfl, fun w' hs_ => ?_⟩)
                rotate_left
                · have hq := hlk w' hs_.2
                  go_simp
                clear hlk
                refine pu_ 11 (some 129) (bl_ 15 4095) HT_ ?_
                refine on_ 12 (some 130) (bl_ 15 8191) HT_ (fun K hK => ?_)
                refine value_ (w1 := ?_) (v := ?_) (by rfl) rfl ?_ ?_
                rotate_left 2
                · go_simp
                  constructor
                  · rfl
                  · rfl
                refine hK.out _ _ ⟨((below_alloc (Below.refl _ _) _).cell (World.block_lt_of_cell? _ _ hHeld.1)).trans hHeld.1, blk_alloc hHeld.2 _⟩ (fun hHeld => ?_)
                clear hK K
                refine no_ (some 130) ?_
                refine on_ 13 (some 131) (bl_ 15 16383) HT_ (fun K hK => ?_)
                refine Kd.R_append_step (Kd.int .i64) (w0 := w) w.heap.size (by rfl) (.tmp 128) (.tmp 130) 23 3 (.int .i64 0) 8 rfl Try.underlying23 info3 rfl (by decide) (by omega) vS' s'.S (j) [.int .i64 (j)] (fun k_ => rcl w18.heap.size colc 5 k_ = 5) (fun _ => False) rfl rfl rfl (fun _ hk => hk.elim) (fun k_ hk => rcl_new hk) (R_col HH.out.hS (fun k_ hk => rcl_old hk)) HB.out HB.out.size (by have := LN.out; omega) ?_
                intro v1 w18b ho hb hg hat
                have HP := HH.out.putS hn0.out hg ho
                have HM := Aside0.mk HP.1
                have HO19 := (B_gr HH.out.hO HH.out.cO hg HH.out.hS.1 (by decide)).1
                have HC3 := Aside0.mk (B_gr BL.out HC.out hg HH.out.hS.1 (by decide))
                replace HH := Aside0.mk HP.2
                clear HP
                have HB2 := Aside0.mk hb
                refine hK.out _ _ ⟨(blk_cell HO19 4).trans rfl, HM.out⟩ (fun hHeld => ?_)
                clear hK K ho hb hg hat HO19
                refine no_ (some 131) ?_
                refine last_ (i := 14) (N := none) (bl_ 15 32767) rfl rfl (one_of HT_.out (by kernel_rfl)) (by decide) (fun K hK => ?_)
                have hput : (Instr.mapUpdate 95 (.map (some gM)) (.int .u8 83) v1).run Try.prog w18b = .ok () (setMap w18b gM 2 vT' v1) := put_S HM.out hn0.out v1
                refine skip_ (w1 := setMap w18b gM 2 vT' v1) (by rfl) rfl ?_ ?_
                · go_simp
                refine hK.out _ _ ?_
                clear hK K hput
                refine done_ (done_of HT_.out (by kernel_rfl)) ?_
                try go_wp2
                have hgm : gl ≠ gM := fun e => by have a1 := HC3.out.2; have a2 := HH.out.cM; rw [e] at a1; omega
                have BL2 := Aside0.mk ((setMap_far (n := 2) vT' v1 hgm).trans HC3.out.1)
                have HB3 := Aside0.mk (setMap_below (n := 2) vT' v1 HB2.out HH.out.bM)
                go_roundg 0
                case measure => have := HG.out; omega
                case rel => exact ⟨2, 2, _, _, _, _, _, _, _, _, (by first | rfl | (simp; done) | (simp [*]; done)), ⟨by omega⟩, ⟨by omega⟩, HT, ⟨⟨fun e => absurd e (by decide), fun e => absurd e (by decide), fun _ => rfl⟩⟩, ⟨HC3.out.2⟩, BL2, HH, HB3⟩
          · have hj2' : jj = 2 := by omega
            subst hj2'
            have hn2 := Aside0.mk (HN.out.2.2 rfl)
            have H := AZ.out
            clear AZ
            change innerO k1 x7 [] s' = some z at H
            simp only [innerO] at H
            obtain rfl := Option.some.inj H
            clear H
            clear hcl0 hcl1 hfl0 hfl1 hco0 hfo0
            go_wp2
            go_roundg k1
            case measure => have := HK.out; omega
            case rel => exact ⟨wrap64 (x7 + 1), n', _, _, _, _, _, _, _, s', (by first | rfl | (simp; done) | (simp [*]; done)), HR, ⟨by have := HK.out; omega⟩, ⟨.inr hn2.out⟩, HH, HB⟩
      · rw [if_neg hq1] at H
        have c1b := decide_eq_false hq1
        obtain rfl := Option.some.inj H
        clear H hq1
        go_wp2
        go_ret2
        exact ⟨gO, gM, n, col, _, _, _, _, _, _, rfl, HH.out, HB.out⟩
theorem orbit_calls (k : Nat) (A0 : Option Addr) (c0 : Nat) (l0 : List Int) (A1 : Option Addr) (c1 : Nat) (l1 : List Int) (R : Option Orb) (w : World) (h0 : Kd.C (Kd.int .i64) w A0 l0.length l0) (g0 : l0.length ≤ c0) (h1 : Kd.C (Kd.int .i64) w A1 l1.length l1) (g1 : l1.length ≤ c1) (h : orbitO k l0 l1 = some R) :
    Calls Try.prog 95 #[.agg #[.slice A0 l0.length c0, .slice A1 l1.length c1]] w fun e w' => OrbPost w w' e R := by
  unfold orbitO at h
  obtain ⟨⟨y1, y2, yb⟩, a, h⟩ := Option.bind_eq_some_iff.mp h
  cases yb with
  | false =>
    have e : none = R := Option.some.inj h
    subst e
    exact orbit_no k A0 c0 l0 A1 c1 l1 y1 y2 w h0 g0 h1 g1 a
  | true => exact orbit_yes k A0 c0 l0 A1 c1 l1 y1 y2 R w h0 g0 h1 g1 a h
end Go.Proofs.Ytoijcallajegfaa.M
end
section
/- Finding the orbit: more rounds give the same answer. No conditions. -/
namespace Go.Proofs.Ytoijcallajegfaa.M
set_option linter.unusedVariables false
set_option linter.unusedSimpArgs false
open Go Go.RowKit Go.Proofs.YtoijcallajegfaaW.PrintWords Go.Proofs.YtoijcallajegfaaW.PrintLast Go.Proofs.YtoijcallajegfaaW.PrintMore Go.Proofs.Ytoijcallajegfaa.A
theorem idxS_mono (k : Nat) (r u : List Int) : ∀ (l : List S33) (i : Nat), LeO (idxS k r u l i) (idxS (k + 1) r u l i) := by
  intro l
  induction l with
  | nil => intro i; exact LeO.refl _
  | cons x l ih =>
    intro i
    unfold idxS
    refine LeO.bind (impl_SameSurface.mono _ _ _ _ _) (fun b => LeO.ite (LeO.refl _) (ih _))
theorem indexO_mono (k : Nat) (l : List S33) (r u : List Int) : LeO (indexO k l r u) (indexO (k + 1) l r u) := by
  unfold indexO
  exact LeO.ite (idxS_mono _ _ _ _ _) (LeO.refl _)
theorem stpO_mono (k : Nat) (i c : Int) (s : Orb) : LeO (stpO k i c s) (stpO (k + 1) i c s) := by
  unfold stpO
  refine LeO.ite (LeO.ite (LeO.bind (impl_letterSurface.mono _ _ _ _) (fun x => LeO.bind (impl_CanonOf.mono _ _ _) (fun y => LeO.bind (indexO_mono _ _ _ _) (fun j => LeO.refl _)))) (LeO.refl _)) (LeO.refl _)
theorem innerO_mono (k : Nat) (i : Int) : ∀ (cs : List Int) (s : Orb), LeO (innerO k i cs s) (innerO (k + 1) i cs s) := by
  intro cs
  induction cs with
  | nil => intro s; exact LeO.refl _
  | cons c cs ih =>
    intro s
    unfold innerO
    refine LeO.bind (stpO_mono _ _ _ _) (fun z => ?_)
    cases z with
    | none => exact LeO.refl _
    | some s' => exact ih s'
theorem loopO_mono : ∀ (k : Nat) (s : Orb) (i : Int), LeO (loopO k s i) (loopO (k + 1) s i) := by
  intro k
  induction k with
  | zero => intro s i; exact LeO.none _
  | succ k ih =>
    intro s i
    rw [loopO, loopO]
    refine LeO.ite (LeO.bind (innerO_mono _ _ _ _) (fun z => ?_)) (LeO.refl _)
    cases z with
    | none => exact LeO.refl _
    | some s' => exact ih s' _
theorem orbitO_mono (k : Nat) (r u : List Int) : LeO (orbitO k r u) (orbitO (k + 1) r u) := by
  unfold orbitO
  exact LeO.bind (impl_CanonOf.mono _ _ _) (fun y => LeO.ite (loopO_mono _ _ _) (LeO.refl _))
end Go.Proofs.Ytoijcallajegfaa.M
end
section
/- Is a surface in one of the lists: the walk of the program's look-up. No conditions. -/
namespace Go.Proofs.Ytoijcallajegfaa.M
set_option linter.unusedVariables false
set_option linter.unusedSimpArgs false
open Go Go.RowKit Go.Proofs.YtoijcallajegfaaW.PrintWords Go.Proofs.YtoijcallajegfaaW.PrintLast Go.Proofs.YtoijcallajegfaaW.PrintMore Go.Proofs.Ytoijcallajegfaa.A
def idxK (k : Nat) (r u : List Int) : List (List S33) → Nat → Option Int
  | [], _ => some (-1)
  | l :: ls, i => (indexO k l r u).bind fun j => if 0 ≤ j then some (i : Int) else idxK k r u ls (i + 1)
def indexK (k : Nat) (ls : List (List S33)) (r u : List Int) : Option Int := if ls.length < 4611686018427387904 then idxK k r u ls 0 else none
theorem idxK_mono (k : Nat) (r u : List Int) : ∀ (l : List (List S33)) (i : Nat), LeO (idxK k r u l i) (idxK (k + 1) r u l i) := by
  intro l
  induction l with
  | nil => intro i; exact LeO.refl _
  | cons x l ih =>
    intro i
    unfold idxK
    refine LeO.bind (indexO_mono _ _ _ _) (fun b => LeO.ite (LeO.refl _) (ih _))
theorem indexK_mono (k : Nat) (l : List (List S33)) (r u : List Int) : LeO (indexK k l r u) (indexK (k + 1) l r u) := by
  unfold indexK
  exact LeO.ite (idxK_mono _ _ _ _ _) (LeO.refl _)
set_option maxHeartbeats 8000000 in
set_option maxRecDepth 100000 in
theorem has_closure (k : Nat) (gs : Nat) (A0 : Option Addr) (c0 : Nat) (l0 : List Int) (A1 : Option Addr) (c1 : Nat) (l1 : List Int) (B0 : Option Addr) (d0 : Nat) (r : List Int) (B1 : Option Addr) (d1 : Nat) (u : List Int) (b : Bool) (w : World)
    (h0 : Kd.C (Kd.int .i64) w A0 l0.length l0) (g0 : l0.length ≤ c0) (h1 : Kd.C (Kd.int .i64) w A1 l1.length l1) (g1 : l1.length ≤ c1) (h2 : Kd.C (Kd.int .i64) w B0 r.length r) (g2 : r.length ≤ d0) (h3 : Kd.C (Kd.int .i64) w B1 u.length u) (g3 : u.length ≤ d1)
    (hs : w.heap[gs]? = some (.cells #[.slice B0 r.length d0, .slice B1 u.length d1] 33 (0, 0))) (h : impl_SameSurface.f k l0 l1 r u = some b) :
    Calls Try.prog 93 #[.agg #[.slice A0 l0.length c0, .slice A1 l1.length c1], .pointer (some ⟨gs, 0, none⟩)] w fun e w' => e = .returned (.bool b) ∧ Below w.heap.size w w' := by
  have hu := Try.underlying33
  have H0 := Aside0.mk h0; have H1 := Aside0.mk h1; have H2 := Aside0.mk h2; have H3 := Aside0.mk h3
  have G0 := Aside0.mk g0; have G1 := Aside0.mk g1; have G2 := Aside0.mk g2; have G3 := Aside0.mk g3
  have BS := Aside0.mk hs; have HA := Aside0.mk h
  clear h0 h1 h2 h3 g0 g1 g2 g3 hs h
  have HB := Aside0.mk (Below.refl w.heap.size w)
  go_enter Try.func93, Try.ntmps93
  go_wp2_with (first | ((with_reducible refine gate_dst (N := 2) rfl ?_); refine bx_ 2 #[.slice A0 l0.length c0, .slice A1 l1.length c1] 33 ?_; intro gb hg w2 hbox hb; have BK := Aside0.mk hbox; have BT := bb_ BS hb; replace HB := b1_ hb; clear hb hbox hg; obtain ⟨hcz0, hcz1, hfz0, hfz1⟩ := c2_ BK; obtain ⟨hcy0, hcy1, hfy0, hfy1⟩ := c2_ BT) | ((with_reducible refine gate_callee (f := 18) rfl ?_); refine gL_ (some 6) Try.func18 #[.agg #[.slice A0 l0.length c0, .slice A1 l1.length c1], .agg #[.slice B0 r.length d0, .slice B1 u.length d1]] rfl qa_ ?_; (with_reducible refine (impl_SameSurface.calls k _ _ l0 _ _ l1 _ _ r _ _ u b _ (cb_ H0) G0.out (cb_ H1) G1.out (cb_ H2) G2.out (cb_ H3) G3.out HA.out).mono ?_); rintro e w3 ⟨rfl, hb⟩; refine ⟨_, rfl, ?_⟩; replace HB := b1_ hb; clear hb))
  go_ret
  exact ⟨qb_, hB_⟩
set_option maxHeartbeats 8000000 in
set_option maxRecDepth 100000 in
theorem has_list (k : Nat) (gf : Nat) (lb : Array Value) (eg : ∀ args w, (callFunc gf args).run Try.prog w = .ok (.enter gf args) w) (A0 : Option Addr) (c0 : Nat) (l0 : List S33) (r u : List Int) (j : Int) (w : World) (hr0 : Kd.C k33 w A0 l0.length l0) (hc0 : l0.length ≤ c0) (h : indexO k l0 r u = some j)
    (hcl : ∀ (A0 : Option Addr) (c0 : Nat) (l0 : List Int) (A1 : Option Addr) (c1 : Nat) (l1 : List Int) (b : Bool) (w1 : World), Below w.heap.size w w1 → Kd.C (Kd.int .i64) w1 A0 l0.length l0 → l0.length ≤ c0 → Kd.C (Kd.int .i64) w1 A1 l1.length l1 → l1.length ≤ c1 → impl_SameSurface.f k l0 l1 r u = some b → Calls Try.prog gf (#[.agg #[.slice A0 l0.length c0, .slice A1 l1.length c1]] ++ lb) w1 fun e w' => e = .returned (.bool b) ∧ Below w1.heap.size w1 w') :
    Calls Try.prog 92 #[.slice A0 l0.length c0, .func (.func gf) #[] lb] w fun e w' => e = .returned (.bool (decide (0 ≤ j))) ∧ Below w.heap.size w w' := by
  have H0 := Aside0.mk hr0
  have G0 := Aside0.mk hc0
  have HA := Aside0.mk h
  have HCL := Aside0.mk hcl
  have EG := Aside0.mk eg
  clear hr0 hc0 h hcl eg
  have HB := Aside0.mk (Below.refl w.heap.size w)
  go_enter Try.func92, Try.ntmps92
  go_wp2_with ((with_reducible refine gate_callee (f := 132) rfl ?_); refine gL_ (some 7) Try.func132 #[.slice A0 l0.length c0, .func (.func gf) #[] lb] rfl qa_ ?_; refine (index_main k gf lb EG.out _ _ l0 r u j _ (cb_ H0) G0.out HA.out (fun A0_ c0_ l0_ A1_ c1_ l1_ b_ w1_ hw_ q0_ q1_ q2_ q3_ q4_ => HCL.out A0_ c0_ l0_ A1_ c1_ l1_ b_ w1_ (below_step hB_ hw_) q0_ q1_ q2_ q3_ q4_)).mono ?_; rintro e w3 ⟨rfl, hb⟩; refine ⟨_, rfl, ?_⟩; replace HB := b1_ hb; clear hb)
  go_ret
  exact ⟨qb_, hB_⟩
set_option maxHeartbeats 8000000 in
set_option maxRecDepth 100000 in
theorem has_row (k : Nat) (gs : Nat) (A0 : Option Addr) (c0 : Nat) (l0 : List S33) (B0 : Option Addr) (d0 : Nat) (r : List Int) (B1 : Option Addr) (d1 : Nat) (u : List Int) (j : Int) (w : World)
    (h0 : Kd.C k33 w A0 l0.length l0) (g0 : l0.length ≤ c0) (h2 : Kd.C (Kd.int .i64) w B0 r.length r) (g2 : r.length ≤ d0) (h3 : Kd.C (Kd.int .i64) w B1 u.length u) (g3 : u.length ≤ d1)
    (hs : w.heap[gs]? = some (.cells #[.slice B0 r.length d0, .slice B1 u.length d1] 33 (0, 0))) (h : indexO k l0 r u = some j) :
    Calls Try.prog 91 #[.slice A0 l0.length c0, .pointer (some ⟨gs, 0, none⟩)] w fun e w' => e = .returned (.bool (decide (0 ≤ j))) ∧ Below w.heap.size w w' := by
  have H0 := Aside0.mk h0; have H2 := Aside0.mk h2; have H3 := Aside0.mk h3
  have G0 := Aside0.mk g0; have G2 := Aside0.mk g2; have G3 := Aside0.mk g3
  have BS := Aside0.mk hs; have HA := Aside0.mk h
  clear h0 h2 h3 g0 g2 g3 hs h
  have HB := Aside0.mk (Below.refl w.heap.size w)
  go_enter Try.func91, Try.ntmps91
  go_wp2_with ((with_reducible refine gate_callee (f := 92) rfl ?_); refine gL_ (some 6) Try.func92 #[.slice A0 l0.length c0, .func (.func 93) #[] #[.pointer (some ⟨gs, 0, none⟩)]] rfl qa_ ?_; refine (has_list k 93 #[.pointer (some ⟨gs, 0, none⟩)] (fun args w => enters_ Try.func93 (by kernel_rfl) rfl args w) _ _ l0 r u j _ (cb_ H0) G0.out HA.out (fun A0_ c0_ l0_ A1_ c1_ l1_ b_ w1_ hw_ q0_ q1_ q2_ q3_ q4_ => has_closure k gs A0_ c0_ l0_ A1_ c1_ l1_ B0 d0 r B1 d1 u b_ w1_ q0_ q1_ q2_ q3_ (Kd.C_below (cb_ H2) hw_) G2.out (Kd.C_below (cb_ H3) hw_) G3.out (blk_below (kk_ BS) hw_) q4_)).mono ?_; rintro e w3 ⟨rfl, hb⟩; refine ⟨_, rfl, ?_⟩; replace HB := b1_ hb; clear hb)
  go_ret
  exact ⟨qb_, hB_⟩
set_option maxHeartbeats 8000000 in
set_option maxRecDepth 100000 in
theorem indexK_main (k : Nat) (gf : Nat) (lb : Array Value) (eg : ∀ args w, (callFunc gf args).run Try.prog w = .ok (.enter gf args) w) (A0 : Option Addr) (c0 : Nat) (l0 : List (List S33)) (r u : List Int) (j : Int) (w : World) (hr0 : Kd.C (Kd.slice 33 k33) w A0 l0.length l0) (hc0 : l0.length ≤ c0) (h : indexK k l0 r u = some j)
    (hcl : ∀ (A0 : Option Addr) (c0 : Nat) (l0 : List S33) (j : Int) (w1 : World), Below w.heap.size w w1 → Kd.C k33 w1 A0 l0.length l0 → l0.length ≤ c0 → indexO k l0 r u = some j → Calls Try.prog gf (#[.slice A0 l0.length c0] ++ lb) w1 fun e w' => e = .returned (.bool (decide (0 ≤ j))) ∧ Below w1.heap.size w1 w') :
    Calls Try.prog 131 #[.slice A0 l0.length c0, .func (.func gf) #[] lb] w fun e w' => e = .returned (.int .i64 j) ∧ Below w.heap.size w w' := by
  have HR0 := Aside0.mk hr0
  have HC0 := Aside0.mk hc0
  have HB := Aside0.mk (Below.refl w.heap.size w)
  have hsm : l0.length < 4611686018427387904 := by
    unfold indexK at h
    split at h
    · assumption
    · cases h
  have H' : Aside0 (idxK k r u (l0.drop 0) 0 = some j) := ⟨by
    unfold indexK at h
    rw [if_pos hsm] at h
    exact h⟩
  clear hr0 hc0 h
  replace hcl := Aside0.mk hcl
  go_enter Try.func131, Try.ntmps131
  go_wp2
  go_loopg [5, 8] l0.length (fun gg _ s8 wr => ∃ kk : Nat, s8 = .int .i64 kk ∧ Aside0 (kk ≤ l0.length) ∧ Aside0 (l0.length - kk ≤ gg) ∧ Aside0 (idxK k r u (l0.drop kk) kk = some j) ∧ Aside0 (Below w.heap.size w wr))
  case atStart => exact ⟨0, rfl, ⟨Nat.zero_le _⟩, ⟨by omega⟩, H', ⟨by repeat (first | (with_reducible first | exact HB.out | apply below_alloc | apply pw_below_drewN | apply below_drew1) | exact HB.out)⟩⟩
  case round =>
    clear H' HB
    obtain ⟨kk, rfl, HK, HG, HA, HB⟩ := hrel
    by_cases hlt : kk < l0.length
    · have hltz : (kk : Int) < (l0.length : Int) := by omega
      have h0z : (0 : Int) ≤ (kk : Int) := Int.natCast_nonneg kk
      have H := HA.out
      have hdr : l0.drop kk = rd_L8 l0 (kk : Int) :: l0.drop (kk + 1) := by
        rw [List.drop_eq_getElem_cons hlt]
        congr 1
        simp [rd_L8, hlt]
      rw [hdr] at H
      simp only [idxK] at H
      obtain ⟨q, Hq, H⟩ := bi_ H
      obtain ⟨ad1, A1, c1, e1, hx1, hl1, hi1⟩ := at_L8 (Kd.C_below HR0.out HB.out) (kk : Int) h0z hltz
      cases e1
      rw [show ((kk : Int)).toNat = kk from rfl] at hx1
      have HI := Aside0.mk hi1
      have HL := Aside0.mk hl1
      clear hi1 hl1
      by_cases hq : 0 ≤ q
      · rw [if_pos hq] at H
        obtain rfl := Option.some.inj H
        have hd := decide_eq_true hq
        clear H
        go_wp2_with (fail)
        refine (hcl.out _ _ (rd_L8 l0 (kk : Int)) q wr HB.out HI.out HL.out Hq.out).mono ?_
        rintro e w2 ⟨rfl, hb⟩
        rw [hd]
        have HB2 := Aside0.mk (below_step HB.out hb)
        clear hb
        go_wp2
        go_ret
        exact ⟨rfl, by repeat (first | (with_reducible first | exact HB2.out | apply below_alloc | apply pw_below_drewN | apply below_drew1) | exact HB2.out)⟩
      · rw [if_neg hq] at H
        have H2 := Aside0.mk H
        clear H
        have hd := decide_eq_false hq
        go_wp2_with (fail)
        refine (hcl.out _ _ (rd_L8 l0 (kk : Int)) q wr HB.out HI.out HL.out Hq.out).mono ?_
        rintro e w2 ⟨rfl, hb⟩
        rw [hd]
        have HB2 := Aside0.mk (below_step HB.out hb)
        clear hb
        go_wp2
        go_roundg (l0.length - (kk + 1))
        case measure => have := HG.out; omega
        case rel => exact ⟨kk + 1, by congr 1, ⟨by omega⟩, ⟨by omega⟩, H2, ⟨by repeat (first | (with_reducible first | exact HB2.out | apply below_alloc | apply pw_below_drewN | apply below_drew1) | exact HB2.out)⟩⟩
    · have hltz : ¬ (kk : Int) < (l0.length : Int) := by omega
      have H := HA.out
      rw [List.drop_eq_nil_of_le (by omega)] at H
      simp only [idxK] at H
      obtain rfl := Option.some.inj H
      clear H
      go_wp2
      go_ret
      exact ⟨rfl, by repeat (first | (with_reducible first | exact HB.out | apply below_alloc | apply pw_below_drewN | apply below_drew1) | exact HB.out)⟩
set_option maxHeartbeats 8000000 in
set_option maxRecDepth 100000 in
theorem has_lists (k : Nat) (gs : Nat) (A0 : Option Addr) (c0 : Nat) (l0 : List (List S33)) (B0 : Option Addr) (d0 : Nat) (r : List Int) (B1 : Option Addr) (d1 : Nat) (u : List Int) (j : Int) (w : World)
    (h0 : Kd.C (Kd.slice 33 k33) w A0 l0.length l0) (g0 : l0.length ≤ c0) (h2 : Kd.C (Kd.int .i64) w B0 r.length r) (g2 : r.length ≤ d0) (h3 : Kd.C (Kd.int .i64) w B1 u.length u) (g3 : u.length ≤ d1)
    (hs : w.heap[gs]? = some (.cells #[.slice B0 r.length d0, .slice B1 u.length d1] 33 (0, 0))) (h : indexK k l0 r u = some j) :
    Calls Try.prog 90 #[.slice A0 l0.length c0, .func (.func 91) #[] #[.pointer (some ⟨gs, 0, none⟩)]] w fun e w' => e = .returned (.bool (decide (0 ≤ j))) ∧ Below w.heap.size w w' := by
  have H0 := Aside0.mk h0; have H2 := Aside0.mk h2; have H3 := Aside0.mk h3
  have G0 := Aside0.mk g0; have G2 := Aside0.mk g2; have G3 := Aside0.mk g3
  have BS := Aside0.mk hs; have HA := Aside0.mk h
  clear h0 h2 h3 g0 g2 g3 hs h
  have HB := Aside0.mk (Below.refl w.heap.size w)
  go_enter Try.func90, Try.ntmps90
  go_wp2_with ((with_reducible refine gate_callee (f := 131) rfl ?_); refine gL_ (some 7) Try.func131 #[.slice A0 l0.length c0, .func (.func 91) #[] #[.pointer (some ⟨gs, 0, none⟩)]] rfl qa_ ?_; refine (indexK_main k 91 #[.pointer (some ⟨gs, 0, none⟩)] (fun args w => enters_ Try.func91 (by kernel_rfl) rfl args w) _ _ l0 r u j _ (cb_ H0) G0.out HA.out (fun A0_ c0_ l0_ j_ w1_ hw_ q0_ q1_ q2_ => has_row k gs A0_ c0_ l0_ B0 d0 r B1 d1 u j_ w1_ q0_ q1_ (Kd.C_below (cb_ H2) hw_) G2.out (Kd.C_below (cb_ H3) hw_) G3.out (blk_below (kk_ BS) hw_) q2_)).mono ?_; rintro e w3 ⟨rfl, hb⟩; refine ⟨_, rfl, ?_⟩; replace HB := b1_ hb; clear hb)
  go_ret
  exact ⟨qb_, hB_⟩
end Go.Proofs.Ytoijcallajegfaa.M
end
section
/- A kind: lists whose elements' blocks are apart from each other. No conditions. -/
namespace Go.Proofs.Ytoijcallajegfaa.M
set_option linter.unusedVariables false
open Go Go.RowKit Go.Proofs.YtoijcallajegfaaW.PrintWords Go.Proofs.YtoijcallajegfaaW.PrintLast Go.Proofs.YtoijcallajegfaaW.PrintMore Go.Proofs.Ytoijcallajegfaa.A
def sliceS {α : Type} (e : Nat) (d : Kd α) : Kd (List α) where
  sz := 1
  E := e :: d.E
  K := (Kd.slice e d).K
  M := fun w base ok xs cs => ∃ v, cs = [v] ∧ Kd.S d e w base ok v xs
  K_len := (Kd.slice e d).K_len
  K_one := (Kd.slice e d).K_one
  K_below := (Kd.slice e d).K_below
  K_of_M := by
    rintro w base ok x cs ⟨v, rfl, h⟩
    obtain ⟨A, c, rfl, hl, hr⟩ := Kd.S_reads h
    exact ⟨A, c, rfl, hl, hr⟩
  M_mono := by
    rintro w base ok ok' x cs hok ⟨v, rfl, h⟩
    exact ⟨v, rfl, Kd.S_mono h hok⟩
  M_bound := by
    rintro w base ok x cs ⟨v, rfl, h⟩
    exact ⟨v, rfl, Kd.S_bound h⟩
  M_move := by
    rintro w w1 base ok x cs hm ⟨v, rfl, h⟩
    exact ⟨v, rfl, Kd.S_move h hm⟩
  M_lower := by
    rintro w base base' ok x cs hb ⟨v, rfl, h⟩
    exact ⟨v, rfl, Kd.S_lower h hb⟩
theorem sliceS_C {α : Type} {e : Nat} {d : Kd α} {w : World} {A : Option Addr} {n : Nat} {xs : List (List α)} (h : Kd.C (sliceS e d) w A n xs) : Kd.C (Kd.slice e d) w A n xs := h
end Go.Proofs.Ytoijcallajegfaa.M
end
section
namespace Go.Proofs.Ytoijcallajegfaa.A
open Go.RowKit Go.Proofs.YtoijcallajegfaaW.PrintWords Go.Proofs.YtoijcallajegfaaW.PrintLast Go.Proofs.YtoijcallajegfaaW.PrintMore
attribute [local go_sem] max2_int min2_int max_two min_two max_three min_three max_four min_four
set_option linter.unusedVariables false
set_option linter.unusedSimpArgs false
def impl_OrbitOf.f (k : Nat) (r u : List Int) : Option (List S33 × Bool) := (M.orbitO k r u).bind fun z => match z with | none => some ([], false) | some s => some (s.L, true)
theorem impl_OrbitOf.mono : ∀ a0 a1 k, LeO (impl_OrbitOf.f k a0 a1) (impl_OrbitOf.f (k + 1) a0 a1) := by
  intro a0 a1 k
  unfold impl_OrbitOf.f
  exact LeO.bind (M.orbitO_mono _ _ _) (fun z => LeO.refl _)
set_option maxHeartbeats 8000000 in
set_option maxRecDepth 100000 in
theorem impl_OrbitOf.calls (k : Nat) (A0_0 : Option Addr) (c0_0 : Nat) (l0_0 : List Int) (A0_1 : Option Addr) (c0_1 : Nat) (l0_1 : List Int) (r1 : List S33) (r2 : Bool) (w : World) (hr0_0 : Kd.C (Kd.int .i64) w A0_0 l0_0.length l0_0) (hc0_0 : l0_0.length ≤ c0_0) (hr0_1 : Kd.C (Kd.int .i64) w A0_1 l0_1.length l0_1) (hc0_1 : l0_1.length ≤ c0_1) (h : impl_OrbitOf.f k l0_0 l0_1 = some (r1, r2)) :
    Calls Try.prog 94 #[.agg #[.slice A0_0 l0_0.length c0_0, .slice A0_1 l0_1.length c0_1]] w fun e w' => ∃ v0_ : Value, e = .returned (.tuple #[v0_, .bool r2]) ∧ Kd.S k33 33 w' w.heap.size (fun _ => True) v0_ r1 ∧ Below w.heap.size w w' := by
  have hu := Try.underlying33
  have HR0_0 := Aside0.mk hr0_0; have HC0_0 := Aside0.mk hc0_0; clear hr0_0 hc0_0
  have HR0_1 := Aside0.mk hr0_1; have HC0_1 := Aside0.mk hc0_1; clear hr0_1 hc0_1
  have HB := Aside0.mk (Below.refl w.heap.size w)
  have H := h
  unfold impl_OrbitOf.f at H
  clear h
  obtain ⟨z, AZ, H⟩ := bi_ H
  cases z with
  | none =>
    have e0 : (([] : List S33), false) = (r1, r2) := Option.some.inj H
    injection e0 with e1 e2
    subst e1 e2
    go_enter Try.func94, Try.ntmps94
    go_wp2_with (first | ((with_reducible refine gate_dst (N := 1) rfl ?_); refine bx_ 1 #[.slice A0_0 l0_0.length c0_0, .slice A0_1 l0_1.length c0_1] 33 ?_; intro gs hg wgs hbox hb; have Bgs := Aside0.mk hbox; replace HB := b1_ hb; clear hb hbox hg; have hczgs0 := cz0_ Bgs; have hczgs1 := cz1_ Bgs; have hfzgs0 := blk_frozen Bgs.out 0; have hfzgs1 := blk_frozen Bgs.out 1) | ((with_reducible refine gate_callee (f := 95) rfl ?_); refine gL_ (some 8) Try.func95 #[.agg #[.slice A0_0 l0_0.length c0_0, .slice A0_1 l0_1.length c0_1]] rfl qa_ ?_; (with_reducible refine (M.orbit_calls k _ _ l0_0 _ _ l0_1 none _ (cb_ HR0_0) HC0_0.out (cb_ HR0_1) HC0_1.out AZ.out).mono ?_); rintro e wz ⟨rfl, hb⟩; refine ⟨_, rfl, ?_⟩; replace HB := b1_ hb; clear hb))
    go_ret2
    exact ⟨_, qb_, Kd.S_nil _ _ _ _ _, hB_⟩
  | some s =>
    have e0 : (s.L, true) = (r1, r2) := Option.some.inj H
    injection e0 with e1 e2
    subst e1 e2
    go_enter Try.func94, Try.ntmps94
    go_wp2_with (first | ((with_reducible refine gate_dst (N := 1) rfl ?_); refine bx_ 1 #[.slice A0_0 l0_0.length c0_0, .slice A0_1 l0_1.length c0_1] 33 ?_; intro gs hg wgs hbox hb; have Bgs := Aside0.mk hbox; replace HB := b1_ hb; clear hb hbox hg; have hczgs0 := cz0_ Bgs; have hczgs1 := cz1_ Bgs; have hfzgs0 := blk_frozen Bgs.out 0; have hfzgs1 := blk_frozen Bgs.out 1) | ((with_reducible refine gate_callee (f := 95) rfl ?_); refine gL_ (some 8) Try.func95 #[.agg #[.slice A0_0 l0_0.length c0_0, .slice A0_1 l0_1.length c0_1]] rfl qa_ ?_; (with_reducible refine (M.orbit_calls k _ _ l0_0 _ _ l0_1 (some s) _ (cb_ HR0_0) HC0_0.out (cb_ HR0_1) HC0_1.out AZ.out).mono ?_); rintro e wz ⟨gO, gM, nm_, col, vL, vW, vF, vB, vT, vS, rfl, hh, hb⟩; refine ⟨_, rfl, ?_⟩; have ZZ := Aside0.mk (below_size hB_ : w.heap.size ≤ _); replace HB := b1_ hb; have HH := Aside0.mk hh; clear hb hh; obtain ⟨AL, cL, eL⟩ := Kd.S_slice HH.out.hL; subst eL; obtain ⟨AW, cW, eW⟩ := Kd.R_slice HH.out.hW; subst eW; have hco0 : wz.cell? ⟨gO, 0, none⟩ = some (.slice AL s.L.length cL) := (blk_cell HH.out.hO 0).trans rfl; have hco1 : wz.cell? ⟨gO, 1, none⟩ = some (.slice AW s.W.length cW) := (blk_cell HH.out.hO 1).trans rfl; have hfo0 := blk_frozen HH.out.hO 0; have hfo1 := blk_frozen HH.out.hO 1))
    go_ret2
    exact ⟨_, qb_, Kd.S_mono (Kd.S_lower HH.out.hL ZZ.out) (fun _ _ => trivial), hB_⟩
end Go.Proofs.Ytoijcallajegfaa.A
end
section
namespace Go.Proofs.Ytoijcallajegfaa.A
open Go.RowKit Go.Proofs.YtoijcallajegfaaW.PrintWords Go.Proofs.YtoijcallajegfaaW.PrintLast Go.Proofs.YtoijcallajegfaaW.PrintMore
attribute [local go_sem] max2_int min2_int max_two min_two max_three min_three max_four min_four
set_option linter.unusedVariables false
set_option linter.unusedSimpArgs false
def impl_OrbitsWith.l0 : Nat → List (List S33) → List S33 → Int → Int → Option (List (List S33))
  | 0, _, _, _, _ => none
  | k + 1, x3, x17, x18, x19 => if x19 < x18 then (if 0 ≤ x19 then (if x19 < (x17.length : Int) then ((M.indexK k x3 (rd_T33 x17 x19).f0 (rd_T33 x17 x19).f1).bind fun j => (if 0 ≤ j then (impl_OrbitsWith.l0 k x3 x17 x18 (wrap64 (x19 + 1))) else ((impl_OrbitOf.f k (rd_T33 x17 x19).f0 (rd_T33 x17 x19).f1).bind fun bt => ((impl_sortSurfaces.f bt.1).bind fun y => (if x3.length < 5864062014805 then (impl_OrbitsWith.l0 k (x3 ++ [y]) x17 x18 (wrap64 (x19 + 1))) else (none)))))) else (none)) else (none)) else (some x3)
def impl_OrbitsWith.j0 : Nat → Int → Bool → Option (List (List S33))
  | 0, _, _ => none
  | k + 1, a0, x14 => if x14 = true then (some ([] : List (List S33))) else ((impl_SurfacesWith.f k a0).bind fun t => (impl_OrbitsWith.l0 k ([] : List (List S33)) t (t.length : Int) 0))
def impl_OrbitsWith.f (k : Nat) (a0 : Int) : Option (List (List S33)) := if a0 < 1 then (impl_OrbitsWith.j0 k a0 true) else (impl_OrbitsWith.j0 k a0 (decide (a0 > 4)))
theorem impl_OrbitsWith.mono_l : ∀ k, (∀ y0 y1 y2 y3, LeO (impl_OrbitsWith.l0 k y0 y1 y2 y3) (impl_OrbitsWith.l0 (k + 1) y0 y1 y2 y3))
  | 0 => fun _ _ _ _ r h => by simp [impl_OrbitsWith.l0] at h
  | k + 1 => by
    have ih0 := impl_OrbitsWith.mono_l k
    intro y0 y1 y2 y3
    unfold impl_OrbitsWith.l0
    repeat' first|exact ih0 _ _ _ _|exact M.indexK_mono _ _ _ _|exact impl_OrbitOf.mono _ _ _|exact lo_|refine LeO.ite ?_ ?_|refine LeO.bind ?_ (fun _ => ?_)
theorem impl_OrbitsWith.mono_j : ∀ k, (∀ y0 y1, LeO (impl_OrbitsWith.j0 k y0 y1) (impl_OrbitsWith.j0 (k + 1) y0 y1))
  | 0 => fun _ _ r h => by simp [impl_OrbitsWith.j0] at h
  | k + 1 => by
    intro y0 y1
    unfold impl_OrbitsWith.j0
    repeat' first|exact impl_OrbitsWith.mono_l _ _ _ _ _|exact impl_SurfacesWith.mono _ _|exact lo_|refine LeO.ite ?_ ?_|refine LeO.bind ?_ (fun _ => ?_)
theorem impl_OrbitsWith.mono : ∀ a0 k, LeO (impl_OrbitsWith.f k a0) (impl_OrbitsWith.f (k + 1) a0) := by
  intro a0 k
  unfold impl_OrbitsWith.f
  refine LeO.ite ?_ ?_
  · exact impl_OrbitsWith.mono_j k _ _
  · exact impl_OrbitsWith.mono_j k _ _
theorem impl_OrbitsWith.below {w W w1 : World} (hb : Below W.heap.size W w1) (h : Below w.heap.size w W := by repeat (first | (with_reducible first | exact HB.out | apply below_alloc | apply pw_below_drewN | apply below_drew1 | refine below_set ?_ (Aside0.out (by assumption))) | exact HB.out)) : Aside0 (Below w.heap.size w W) := ⟨h⟩
theorem impl_OrbitsWith.sort_here {W0 w1 : World} {v0 : Value} {l y : List S33} (hb : Aside0 (Below W0.heap.size W0 w1)) (ho : Aside0 (Kd.S k33 33 w1 W0.heap.size (fun _ => True) v0 l)) (h : impl_sortSurfaces.f l = some y) (w2 : World) (hw : Below w1.heap.size w1 w2) :
    Calls Try.prog 51 #[v0] w2 fun e w' => ∃ v1 : Value, e = .returned v1 ∧ Kd.S k33 33 w' W0.heap.size (fun k => W0.heap.size ≤ k) v1 y ∧ Below W0.heap.size W0 w' := by
  refine (impl_sortSurfaces.callsS (fun k => W0.heap.size ≤ k) v0 l y W0 w2 (below_step hb.out hw) (Kd.S_below (Kd.S_mono (Kd.S_bound ho.out) (fun _ hk => hk.2.1)) hw) h).mono ?_
  rintro e w' ⟨v1, he, ho1, hb1, _⟩
  exact ⟨v1, he, ho1, hb1⟩
set_option maxHeartbeats 8000000 in
set_option maxRecDepth 100000 in
theorem impl_OrbitsWith.callsS (k : Nat) (a0 : Int) (r : List (List S33)) (w : World) (h : impl_OrbitsWith.f k a0 = some r) :
    Calls Try.prog 41 #[.int .i64 a0] w fun e w' => ∃ v0_ : Value, e = .returned (v0_) ∧ Kd.S (M.sliceS 33 k33) 25 w' w.heap.size (fun _ => True) v0_ r ∧ Below w.heap.size w w' := by
  have hu33 := Try.underlying33
  have HB := Aside0.mk (Below.refl w.heap.size w)
  have H := h
  unfold impl_OrbitsWith.f at H
  clear h
  have HC2 := Aside0.mk H
  clear H
  go_enter Try.func41, Try.ntmps41
  go_upto_region 1 with (fail)
  go_cut [14] (fun v14 wc => ∃ (kq : Nat) (x14_1 : Bool), v14 = .bool x14_1 ∧ Aside0 (impl_OrbitsWith.j0 kq a0 x14_1 = some r) ∧ Aside0 (kq ≤ k) ∧ Aside0 (Below w.heap.size w wc))
  case first =>
    have H := HC2.out
    clear HC2
    by_cases c3 : a0 < 1
    · rw [if_pos c3] at H
      have c3b0 := decide_eq_true c3
      clear c3
      (first | rw [c3b0] | (simp only [i64_w, i32_w]; rw [c3b0]) | skip)
      have H' := Aside0.mk H
      clear H
      go_wp2
      go_meet
      case rel => exact ⟨_, (true), qc_, H', ⟨qd_⟩, ⟨hB_⟩⟩
    · rw [if_neg c3] at H
      have c3b0 := decide_eq_false c3
      clear c3
      (first | rw [c3b0] | (simp only [i64_w, i32_w]; rw [c3b0]) | skip)
      have H' := Aside0.mk H
      clear H
      go_wp2
      go_meet
      case rel => exact ⟨_, (decide (a0 > 4)), qc_, H', ⟨qd_⟩, ⟨hB_⟩⟩
  case rest =>
    clear HC2
    obtain ⟨kq, x14_1, rfl, HA, HJ1, HB⟩ := hcut
    cases kq with
    | zero => exact absurd HA.out (by simp [impl_OrbitsWith.j0])
    | succ kj1 =>
      have H := HA.out
      clear HA
      simp only [impl_OrbitsWith.j0] at H
      by_cases c4 : x14_1 = true
      · subst c4
        rw [if_pos rfl] at H
        obtain rfl := Option.some.inj H
        go_wp2
        go_ret
        exact ⟨_, qb_, Kd.S_nil _ _ _ _ _, hB_⟩
      · replace c4 := Bool.eq_false_iff.mpr c4
        subst c4
        have H1 : ((impl_SurfacesWith.f kj1 a0).bind fun t => (impl_OrbitsWith.l0 kj1 ([] : List (List S33)) t (t.length : Int) 0)) = some r := by rw [if_neg (show ¬ (false = true) by decide)] at H; exact H
        clear H
        have H := H1
        clear H1
        obtain ⟨y265, hy265⟩ : ∃ y_ : List (List S33), y_ = (([] : List (List S33))) := ⟨_, rfl⟩
        replace H : ((impl_SurfacesWith.f kj1 a0).bind fun t => (impl_OrbitsWith.l0 kj1 y265 t (t.length : Int) 0)) = some r := by first | (rw [hy265]; exact H) | exact H
        have Ny265 := Aside0.mk hy265
        clear hy265
        obtain ⟨t268, A5, H⟩ := bi_ H
        have H' := Aside0.mk H
        clear H
        go_wp2_with (first | ((with_reducible refine gate_dst (N := 15) rfl ?_); refine Kd.S_lit (M.sliceS 33 k33) _ 25 ?hg (N := 15) ?hd (xs := ([] : List (List S33))) (inner := []) (ok := (fun k_ => (w.heap.size ≤ k_))) (okp := (fun k_ => (w.heap.size ≤ k_))) ?hr ?hp (fun _ hk => hk) ((show ∀ k_, wc.heap.size ≤ k_ → (fun k_ => (w.heap.size ≤ k_)) k_ from fun k_ hk => (Nat.le_trans (below_size hB_) hk)) _ (Nat.le_refl _)) (Below.refl _ _) (Nat.le_refl _) (by simp) ?_; (case hd => rfl); (case hg => rfl); (case hr => first | (go_simp; done) | (go_simp; rfl)); (case hp => exact (Reps.none _ _)); intro v266 w6 ho7 hb hg_ hnew_; clear hg_ hnew_; (first | rw [← Ny265.out] at ho7 | (simp only [Int.reduceToNat] at ho7; rw [← Ny265.out] at ho7)); have HO267 := Aside0.mk (Kd.S_lower ho7 (below_size hB_)); replace HB := b1_ hb; clear hb ho7) | ((with_reducible refine gate_callee (f := 12) rfl ?_); refine gL_ (some 17) Try.func12 #[.int .i64 a0] rfl qa_ ?_; (with_reducible refine (impl_SurfacesWith.calls kj1 a0 t268 _ A5.out).mono ?_); rintro e w8 ⟨v269, rfl, ho0, hb⟩; refine ⟨_, rfl, ?_⟩; replace HO267 := sb_ HO267 hb; have HO270 := Aside0.mk (Kd.S_mono (Kd.S_bound (Kd.S_lower (base' := w.heap.size) ho0 (below_size hB_))) (fun k_ hk_ => hk_.2.1)); replace HB := b1_ hb; clear hb ho0; obtain ⟨Ao9, co9, eo9⟩ := Kd.S_slice HO270.out; subst eo9))
        go_loopg [3, 19] kj1 (fun kq v3 v19 w' => ∃ (x3_2 : List (List S33)) (x19_2 : Int), v19 = .int .i64 x19_2 ∧ Aside0 (impl_OrbitsWith.l0 kq x3_2 t268 (t268.length : Int) x19_2 = some r) ∧ Aside0 (kq ≤ kj1) ∧ Aside0 (Kd.S (M.sliceS 33 k33) 25 w' w.heap.size (fun k_ => (w.heap.size ≤ k_)) v3 x3_2) ∧ Aside0 (Kd.S k33 33 w' w.heap.size (fun k_ => (w.heap.size ≤ k_)) (.slice Ao9 t268.length co9) t268) ∧ Aside0 (Below w.heap.size w w'))
        case atStart => exact ⟨(y265), (0), qc_, H', ⟨Nat.le_refl _⟩, ⟨(ss_ HO267)⟩, ⟨(ss_ HO270)⟩, ⟨hB_⟩⟩
        case round =>
          clear H' HO267 HO270 HB
          obtain ⟨x3_2, x19_2, rfl, HA, HK2, HO_3, HO_17, HW⟩ := hrel
          have HB := Aside0.mk (Below.refl wr.heap.size wr)
          cases gk with
          | zero => exact absurd HA.out (by simp [impl_OrbitsWith.l0])
          | succ k2 =>
            have H := HA.out
            clear HA
            simp only [impl_OrbitsWith.l0] at H
            by_cases c10 : x19_2 < (t268.length : Int)
            · rw [if_pos c10] at H
              have c10b0 := decide_eq_true c10
              clear c10
              have c11 := cp_ H
              replace H := ca_ H
              have c11b0 := decide_eq_true c11
              clear c11
              have c12 := cp_ H
              replace H := ca_ H
              have c12b0 := decide_eq_true c12
              clear c12
              obtain ⟨j13, A13, H⟩ := bi_ H
              have HX := Aside0.mk H
              clear H
              have p274 : 0 ≤ (x19_2 : Int) := of_decide_eq_true qe_
              have q274 : x19_2 < (t268.length : Int) := of_decide_eq_true qe_
              obtain ⟨ad1, A1, c1, A2, c2, e1, hx1, hx2, hl1, hi1, hl2, hi2⟩ := at_T33 (Kd.S_reads' HO_17.out).2.2 x19_2 p274 q274
              cases e1
              generalize hsr : rd_T33 t268 x19_2 = sr at hx1 hx2 hl1 hi1 hl2 hi2 A13 HX
              have HI1 := Aside0.mk hi1
              have HI2 := Aside0.mk hi2
              have HL1 := Aside0.mk hl1
              have HL2 := Aside0.mk hl2
              clear hi1 hi2 hl1 hl2 hsr
              obtain ⟨A3, c3, e3⟩ := Kd.S_slice HO_3.out
              subst e3
              have HC3 := Aside0.mk (M.sliceS_C (Kd.S_reads' HO_3.out).2.2)
              have HL3 := Aside0.mk ((Kd.S_reads' HO_3.out).2.1)
              replace p274 := eq_true p274
              replace q274 := eq_true q274
              go_upto_region 8 with (first | ((with_reducible refine gate_dst (N := 5) rfl ?_); refine bx_ 5 #[.slice none 0 0, .slice none 0 0] 33 ?_; intro gb hg w23 hbox hb; have BK := Aside0.mk hbox; have GE := gw_ wr hg; replace HB := b1_ hb; clear hb hbox hg; obtain ⟨hcz0, hcz1, hfz0, hfz1⟩ := c2_ BK) | ((with_reducible refine gate_store (t := 33) (p := 5) rfl ?_); refine store_event (t := 33) (p := 5) (v := ?vo_w27) (w1 := ((w23.setCell ⟨gb, 0, none⟩ (.slice A1 sr.f0.length c1)).setCell ⟨gb, 1, none⟩ (.slice A2 sr.f1.length c2))) ?hg ?ho ?hn ?hr ?_; (case ho => rfl); (case hg => rfl); (case hn => rfl); (case hr => first | (go_simp; done) | (go_simp; rfl)); intro w27 hw; have n7_ : Aside0 (w27.heap[gb]? = some (.cells #[.slice A1 sr.f0.length c1, .slice A2 sr.f1.length c2] 33 (0, 0))) := ⟨(by rw [hw]; exact qp_)⟩; have n8_ : Aside0 (Below wr.heap.size wr w27) := ⟨(by rw [hw]; exact hB_)⟩; clear hw; clear BK; clear HB; have BK := n7_; have HB := n8_; clear n7_ n8_ hcz0 hcz1 hfz0 hfz1; obtain ⟨hcz0, hcz1, hfz0, hfz1⟩ := c2_ BK) | ((with_reducible refine gate_callee (f := 90) rfl ?_); refine gL_ (some 25) Try.func90 #[.slice A3 x3_2.length c3, .func (.func 91) #[] #[.pointer (some ⟨gb, 0, none⟩)]] rfl qa_ ?_; refine (M.has_lists k2 gb _ _ x3_2 _ _ sr.f0 _ _ sr.f1 j13 _ (cb_ HC3) HL3.out (cb_ HI1) HL1.out (cb_ HI2) HL2.out (kk_ BK) A13.out).mono ?_; rintro e w25 ⟨rfl, hb⟩; refine ⟨_, rfl, ?_⟩; replace BK := bb_ BK hb; replace HB := b1_ hb; clear hb hcz0 hcz1 hfz0 hfz1; obtain ⟨hcz0, hcz1, hfz0, hfz1⟩ := c2_ BK))
              by_cases c13 : 0 ≤ j13
              · have H := HX.out
                rw [if_pos c13] at H
                clear HX
                have c13b0 := decide_eq_true c13
                clear c13
                rw [c13b0]
                have H' := Aside0.mk H
                clear H
                go_wp2
                go_roundg k2
                case measure => have := HJ1.out; have := HK2.out; omega
                case rel => exact ⟨(x3_2), (wrap64 (x19_2 + 1)), qc_, H', ⟨by have := HJ1.out; have := HK2.out; omega⟩, ⟨Kd.S_below HO_3.out hB_⟩, ⟨Kd.S_below HO_17.out hB_⟩, ⟨below_step HW.out hB_⟩⟩
              · have H := HX.out
                rw [if_neg c13] at H
                clear HX
                have c13b0 := decide_eq_false c13
                clear c13
                rw [c13b0]
                obtain ⟨⟨l14, b14⟩, A14, H⟩ := bi_ H
                obtain ⟨y15, A15, H⟩ := bi_ H
                have c16 := cp_ H
                replace H := ca_ H
                have LM := Aside0.mk c16
                clear c16
                have H' := Aside0.mk H
                clear H
                have A15' : Aside0 (impl_sortSurfaces.f l14 = some y15) := A15
                go_wp2_with (first | ((with_reducible refine gate_callee (f := 94) rfl ?_); refine gL_ (some 29) Try.func94 #[.agg #[.slice A1 sr.f0.length c1, .slice A2 sr.f1.length c2]] rfl qa_ ?_; (with_reducible refine (impl_OrbitOf.calls k2 _ _ sr.f0 _ _ sr.f1 l14 b14 _ (cb_ HI1) HL1.out (cb_ HI2) HL2.out A14.out).mono ?_); rintro e w29 ⟨v14, rfl, ho, hb⟩; refine ⟨_, rfl, ?_⟩; have HQ := impl_OrbitsWith.below (w := wr) hb; have HZ := Aside0.mk hb; have HO14 := Aside0.mk ho; replace HB := b1_ hb; clear hb ho) | ((with_reducible refine gate_callee (f := 51) rfl ?_); refine gL_ (some 34) Try.func51 #[v14] rfl qa_ ?_; refine (impl_OrbitsWith.sort_here HZ HO14 A15'.out _ (by repeat (first | (with_reducible first | exact Below.refl _ _ | apply below_alloc | apply pw_below_drewN | apply below_drew1) | exact Below.refl _ _))).mono ?_; rintro e w34 ⟨v15, rfl, ho, hb⟩; obtain ⟨A15_, c15_, e15_⟩ := Kd.S_slice ho; subst e15_; refine ⟨_, rfl, ?_⟩; have HO15 := Aside0.mk ho; replace HB := Aside0.mk (below_step HQ.out hb); clear hb ho) | ((with_reducible refine gate_builtin (b := .append) (xs := #[.tmp 32, .tmp 35]) rfl ?_); at_builtin; refine Kd.S_append (M.sliceS 33 k33) (w0 := w) w.heap.size rfl (.tmp 32) (.tmp 35) 55 25 (.slice none 0 0) 24 rfl Try.underlying55 info25 rfl (by decide) (by omega) (.slice A3 x3_2.length c3) x3_2 y15 [.slice A15_ y15.length c15_] (fun k_ => w.heap.size ≤ k_) (fun k_ => wr.heap.size ≤ k_) rfl rfl ?aP ?aK ?aF ?aO ?aB ?aS ?aL ?_; (case aP => exact ⟨_, rfl, sw_ (Kd.S_lower (Kd.S_mono HO15.out (fun k_ hk => Nat.le_trans (below_size HQ.out) hk)) (Nat.le_trans (below_size HW.out) (below_size HQ.out)))⟩); (case aK => exact (fun k_ hk => ⟨Nat.le_trans (below_size HW.out) hk, Kd.fresh' (Kd.S_lt HO_3.out) k_ hk⟩)); (case aF => exact (fun k_ hk => Nat.le_trans (Nat.le_trans (below_size HW.out) (below_size hB_)) hk)); (case aO => exact Kd.S_below (Kd.S_mono (Kd.S_bound HO_3.out) (fun k_ hk => ⟨hk.1, fun h_ => absurd hk.2.2.1 (Nat.not_lt.mpr h_)⟩)) hB_); (case aB => exact below_step HW.out hB_); (case aS => exact Nat.le_trans (below_size HW.out) (below_size hB_)); (case aL => have := LM.out; omega); intro v36 w36 ho hb hg hat; have HO36 := Aside0.mk ho; have HO37 := Aside0.mk (Kd.S_over' (Kd.S_below HO_17.out hB_) (Kd.S_typed (Kd.S_below HO_3.out hB_)) (by decide) hg); clear HB; have HB := Aside0.mk hb; clear ho hb hg hat))
                go_roundg k2
                case measure => have := HJ1.out; have := HK2.out; omega
                case rel => exact ⟨(x3_2 ++ [y15]), (wrap64 (x19_2 + 1)), qc_, H', ⟨by have := HJ1.out; have := HK2.out; omega⟩, ⟨(ss_ HO36)⟩, ⟨(ss_ HO37)⟩, ⟨hB_⟩⟩
            · rw [if_neg c10] at H
              have c10b0 := decide_eq_false c10
              clear c10
              obtain rfl := Option.some.inj H
              go_wp2
              go_ret
              exact ⟨_, qb_, Kd.S_mono (Kd.S_below HO_3.out hB_) (fun _ _ => trivial), below_step HW.out hB_⟩
theorem impl_OrbitsWith.calls (k : Nat) (a0 : Int) (r : List (List S33)) (w : World) (h : impl_OrbitsWith.f k a0 = some r) :
    Calls Try.prog 41 #[.int .i64 a0] w fun e w' => ∃ v0_ : Value, e = .returned (v0_) ∧ Kd.R (M.sliceS 33 k33) 25 w' w.heap.size (fun _ => True) v0_ r ∧ Below w.heap.size w w' := by
  refine (impl_OrbitsWith.callsS k a0 r w h).mono ?_
  rintro e w' ⟨v, he, ho, hb⟩
  exact ⟨v, he, Kd.S_R ho, hb⟩
end Go.Proofs.Ytoijcallajegfaa.A
end
section
namespace Go.Proofs.Ytoijcallajegfaa.A
open Go.RowKit Go.Proofs.YtoijcallajegfaaW.PrintWords Go.Proofs.YtoijcallajegfaaW.PrintLast Go.Proofs.YtoijcallajegfaaW.PrintMore
attribute [local go_sem] max2_int min2_int max_two min_two max_three min_three max_four min_four
set_option linter.unusedVariables false
set_option linter.unusedSimpArgs false
def impl_IndexOf.f (k : Nat) (r u : List Int) : Option Int := (M.orbitO k r u).bind fun z => match z with | none => some (-1) | some s => some (s.L.length : Int)
theorem impl_IndexOf.mono : ∀ a0 a1 k, LeO (impl_IndexOf.f k a0 a1) (impl_IndexOf.f (k + 1) a0 a1) := by
  intro a0 a1 k
  unfold impl_IndexOf.f
  exact LeO.bind (M.orbitO_mono _ _ _) (fun z => LeO.refl _)
set_option maxHeartbeats 8000000 in
set_option maxRecDepth 100000 in
theorem impl_IndexOf.calls (k : Nat) (A0_0 : Option Addr) (c0_0 : Nat) (l0_0 : List Int) (A0_1 : Option Addr) (c0_1 : Nat) (l0_1 : List Int) (r : Int) (w : World) (hr0_0 : Kd.C (Kd.int .i64) w A0_0 l0_0.length l0_0) (hc0_0 : l0_0.length ≤ c0_0) (hr0_1 : Kd.C (Kd.int .i64) w A0_1 l0_1.length l0_1) (hc0_1 : l0_1.length ≤ c0_1) (h : impl_IndexOf.f k l0_0 l0_1 = some r) :
    Calls Try.prog 42 #[.agg #[.slice A0_0 l0_0.length c0_0, .slice A0_1 l0_1.length c0_1]] w fun e w' => e = .returned (.int .i64 r) ∧ Below w.heap.size w w' := by
  have hu := Try.underlying33
  have HR0_0 := Aside0.mk hr0_0; have HC0_0 := Aside0.mk hc0_0; clear hr0_0 hc0_0
  have HR0_1 := Aside0.mk hr0_1; have HC0_1 := Aside0.mk hc0_1; clear hr0_1 hc0_1
  have HB := Aside0.mk (Below.refl w.heap.size w)
  have H := h
  unfold impl_IndexOf.f at H
  clear h
  obtain ⟨z, AZ, H⟩ := bi_ H
  cases z with
  | none =>
    obtain rfl := Option.some.inj H
    go_enter Try.func42, Try.ntmps42
    go_wp2_with (first | ((with_reducible refine gate_dst (N := 1) rfl ?_); refine bx_ 1 #[.slice A0_0 l0_0.length c0_0, .slice A0_1 l0_1.length c0_1] 33 ?_; intro gs hg wgs hbox hb; have Bgs := Aside0.mk hbox; replace HB := b1_ hb; clear hb hbox hg; have hczgs0 := cz0_ Bgs; have hczgs1 := cz1_ Bgs; have hfzgs0 := blk_frozen Bgs.out 0; have hfzgs1 := blk_frozen Bgs.out 1) | ((with_reducible refine gate_callee (f := 95) rfl ?_); refine gL_ (some 7) Try.func95 #[.agg #[.slice A0_0 l0_0.length c0_0, .slice A0_1 l0_1.length c0_1]] rfl qa_ ?_; (with_reducible refine (M.orbit_calls k _ _ l0_0 _ _ l0_1 none _ (cb_ HR0_0) HC0_0.out (cb_ HR0_1) HC0_1.out AZ.out).mono ?_); rintro e wz ⟨rfl, hb⟩; refine ⟨_, rfl, ?_⟩; replace HB := b1_ hb; clear hb))
    go_ret
    exact ⟨qb_, hB_⟩
  | some s =>
    obtain rfl := Option.some.inj H
    go_enter Try.func42, Try.ntmps42
    go_wp2_with (first | ((with_reducible refine gate_dst (N := 1) rfl ?_); refine bx_ 1 #[.slice A0_0 l0_0.length c0_0, .slice A0_1 l0_1.length c0_1] 33 ?_; intro gs hg wgs hbox hb; have Bgs := Aside0.mk hbox; replace HB := b1_ hb; clear hb hbox hg; have hczgs0 := cz0_ Bgs; have hczgs1 := cz1_ Bgs; have hfzgs0 := blk_frozen Bgs.out 0; have hfzgs1 := blk_frozen Bgs.out 1) | ((with_reducible refine gate_callee (f := 95) rfl ?_); refine gL_ (some 7) Try.func95 #[.agg #[.slice A0_0 l0_0.length c0_0, .slice A0_1 l0_1.length c0_1]] rfl qa_ ?_; (with_reducible refine (M.orbit_calls k _ _ l0_0 _ _ l0_1 (some s) _ (cb_ HR0_0) HC0_0.out (cb_ HR0_1) HC0_1.out AZ.out).mono ?_); rintro e wz ⟨gO, gM, nm_, col, vL, vW, vF, vB, vT, vS, rfl, hh, hb⟩; refine ⟨_, rfl, ?_⟩; replace HB := b1_ hb; have HH := Aside0.mk hh; clear hb hh; obtain ⟨AL, cL, eL⟩ := Kd.S_slice HH.out.hL; subst eL; obtain ⟨AW, cW, eW⟩ := Kd.R_slice HH.out.hW; subst eW; have hco0 : wz.cell? ⟨gO, 0, none⟩ = some (.slice AL s.L.length cL) := (blk_cell HH.out.hO 0).trans rfl; have hco1 : wz.cell? ⟨gO, 1, none⟩ = some (.slice AW s.W.length cW) := (blk_cell HH.out.hO 1).trans rfl; have hfo0 := blk_frozen HH.out.hO 0; have hfo1 := blk_frozen HH.out.hO 1))
    go_ret
    exact ⟨qb_, hB_⟩
end Go.Proofs.Ytoijcallajegfaa.A
end
section
namespace Go.Proofs.Ytoijcallajegfaa.A
open Go.RowKit Go.Proofs.YtoijcallajegfaaW.PrintWords Go.Proofs.YtoijcallajegfaaW.PrintLast Go.Proofs.YtoijcallajegfaaW.PrintMore
attribute [local go_sem] max2_int min2_int max_two min_two max_three min_three max_four min_four
set_option linter.unusedVariables false
set_option linter.unusedSimpArgs false
mutual
def laws_FnClasses.l0 : Nat → Int → List (List (S33)) → Int → Int → Int → Option (Bool)
  | 0, _, _, _, _, _ => none
  | k + 1, x3, x4, x5, x22, x23 => if x23 < x22 then (if 0 ≤ x23 then (if x23 < (x4.length : Int) then ((some (rd_L8 x4 x23)).bind fun t1287 => (if (t1287.length : Int) = 0 then (laws_FnClasses.j1 k x3 x4 x5 t1287 x22 x23 true) else (if 0 < (t1287.length : Int) then ((impl_IndexOf.f k ((rd_T33 t1287 0).f0) ((rd_T33 t1287 0).f1)).bind fun t1291 => (laws_FnClasses.j1 k x3 x4 x5 t1287 x22 x23 (t1291 != (t1287.length : Int)))) else (none)))) else (none)) else (none)) else ((impl_SurfacesWith.f k x3).bind fun t1284 => (if x5 = (t1284.length : Int) then (some (decide ((x4.length : Int) > 0))) else (some false)))
def laws_FnClasses.j1 : Nat → Int → List (List (S33)) → Int → List (S33) → Int → Int → Bool → Option (Bool)
  | 0, _, _, _, _, _, _, _ => none
  | k + 1, x3, x4, x5, x7, x22, x23, x38 => if x38 = true then (some false) else (laws_FnClasses.l1 k x3 x4 (wrap64 (x5 + (x7.length : Int))) x7 x22 x23 x7 (x7.length : Int) 0)
def laws_FnClasses.l1 : Nat → Int → List (List (S33)) → Int → List (S33) → Int → Int → List (S33) → Int → Int → Option (Bool)
  | 0, _, _, _, _, _, _, _, _, _ => none
  | k + 1, x3, x4, x5, x7, x22, x23, x43, x44, x45 => if x45 < x44 then (if 0 ≤ x45 then (if x45 < (x43.length : Int) then ((impl_StratumOf.f k ((rd_T33 x43 x45).f0) ((rd_T33 x43 x45).f1)).bind fun t1294 => (if 0 < (x7.length : Int) then ((impl_StratumOf.f k ((rd_T33 x7 0).f0) ((rd_T33 x7 0).f1)).bind fun t1298 => ((laws_same.f k t1294 t1298).bind fun t1301 => (if t1301 = true then (laws_FnClasses.l1 k x3 x4 x5 x7 x22 x23 x43 x44 (wrap64 (x45 + 1))) else (some false)))) else (none))) else (none)) else (none)) else (laws_FnClasses.l0 k x3 x4 x5 x22 (wrap64 (x23 + 1)))
end
def laws_FnClasses.f (k : Nat) (l0 : List Int) : Option (Bool) := if (l0.length : Int) > 1048576 then (some true) else ((some (([1, 2, 3, 3, 2, 3, 3, 3, 3, 3, 3, 4] : List Int) : List Int)).bind fun y1276 => ((spec_MakeNum.f k l0 1).bind fun t1279 => (if 0 ≤ (Int.tmod t1279 12) then (if (Int.tmod t1279 12) < (y1276.length : Int) then ((impl_OrbitsWith.f k (rd y1276 (Int.tmod t1279 12))).bind fun t1281 => (laws_FnClasses.l0 k (rd y1276 (Int.tmod t1279 12)) t1281 0 (t1281.length : Int) 0)) else (none)) else (none))))
theorem laws_FnClasses.mono_l : ∀ k, (∀ y0 y1 y2 y3 y4, LeO (laws_FnClasses.l0 k y0 y1 y2 y3 y4) (laws_FnClasses.l0 (k + 1) y0 y1 y2 y3 y4)) ∧ (∀ y0 y1 y2 y3 y4 y5 y6, LeO (laws_FnClasses.j1 k y0 y1 y2 y3 y4 y5 y6) (laws_FnClasses.j1 (k + 1) y0 y1 y2 y3 y4 y5 y6)) ∧ (∀ y0 y1 y2 y3 y4 y5 y6 y7 y8, LeO (laws_FnClasses.l1 k y0 y1 y2 y3 y4 y5 y6 y7 y8) (laws_FnClasses.l1 (k + 1) y0 y1 y2 y3 y4 y5 y6 y7 y8))
  | 0 => ⟨fun _ _ _ _ _ r h => by simp [laws_FnClasses.l0] at h, fun _ _ _ _ _ _ _ r h => by simp [laws_FnClasses.j1] at h, fun _ _ _ _ _ _ _ _ _ r h => by simp [laws_FnClasses.l1] at h⟩
  | k + 1 => by
    obtain ⟨ih0, ih1, ih2⟩ := laws_FnClasses.mono_l k
    refine ⟨?_, ?_, ?_⟩
    · intro y0 y1 y2 y3 y4
      unfold laws_FnClasses.l0
      repeat' first|exact ih0 _ _ _ _ _|exact ih1 _ _ _ _ _ _ _|exact ih2 _ _ _ _ _ _ _ _ _|exact impl_IndexOf.mono _ _ _|exact impl_OrbitsWith.mono _ _|exact impl_StratumOf.mono _ _ _|exact impl_SurfacesWith.mono _ _|exact laws_same.mono _ _ _|exact spec_MakeNum.mono _ _ _|exact lo_|refine LeO.ite ?_ ?_|refine LeO.bind ?_ (fun _ => ?_)
    · intro y0 y1 y2 y3 y4 y5 y6
      unfold laws_FnClasses.j1
      repeat' first|exact ih0 _ _ _ _ _|exact ih1 _ _ _ _ _ _ _|exact ih2 _ _ _ _ _ _ _ _ _|exact impl_IndexOf.mono _ _ _|exact impl_OrbitsWith.mono _ _|exact impl_StratumOf.mono _ _ _|exact impl_SurfacesWith.mono _ _|exact laws_same.mono _ _ _|exact spec_MakeNum.mono _ _ _|exact lo_|refine LeO.ite ?_ ?_|refine LeO.bind ?_ (fun _ => ?_)
    · intro y0 y1 y2 y3 y4 y5 y6 y7 y8
      unfold laws_FnClasses.l1
      repeat' first|exact ih0 _ _ _ _ _|exact ih1 _ _ _ _ _ _ _|exact ih2 _ _ _ _ _ _ _ _ _|exact impl_IndexOf.mono _ _ _|exact impl_OrbitsWith.mono _ _|exact impl_StratumOf.mono _ _ _|exact impl_SurfacesWith.mono _ _|exact laws_same.mono _ _ _|exact spec_MakeNum.mono _ _ _|exact lo_|refine LeO.ite ?_ ?_|refine LeO.bind ?_ (fun _ => ?_)
theorem laws_FnClasses.mono : ∀ a0 k, LeO (laws_FnClasses.f k a0) (laws_FnClasses.f (k + 1) a0) := by
  intro a0 k
  obtain ⟨ih0, ih1, ih2⟩ := laws_FnClasses.mono_l k
  unfold laws_FnClasses.f
  repeat' first|exact ih0 _ _ _ _ _|exact ih1 _ _ _ _ _ _ _|exact ih2 _ _ _ _ _ _ _ _ _|exact impl_IndexOf.mono _ _ _|exact impl_OrbitsWith.mono _ _|exact impl_StratumOf.mono _ _ _|exact impl_SurfacesWith.mono _ _|exact laws_same.mono _ _ _|exact spec_MakeNum.mono _ _ _|exact lo_|refine LeO.ite ?_ ?_|refine LeO.bind ?_ (fun _ => ?_)
def laws_FnClasses.T15 : Bool × List (List Nat × List Nat) := (true, [([], []), ([0], [0]), ([], []), ([2], [2]), ([3], [3]), ([4, 1], [4]), ([1, 5, 5], [1, 5]), ([6], [6])])
def laws_FnClasses.B15 : List Nat := [0, 1, 0, 4, 12, 31, 63, 127]
theorem laws_FnClasses.tab15 : rtab .any (opsOf Try.f8 15) = laws_FnClasses.T15 := by kernel_rfl
theorem laws_FnClasses.bits15 : waitsOk laws_FnClasses.T15.2 laws_FnClasses.B15 = true := by kernel_rfl
set_option maxHeartbeats 8000000 in
set_option maxRecDepth 100000 in
theorem laws_FnClasses.calls (k : Nat) (A0 : Option Addr) (c0 : Nat) (l0 : List Int) (r : Bool) (w : World) (hr0 : Kd.C (Kd.int .u8) w A0 l0.length l0) (hc0 : l0.length ≤ c0) (h : laws_FnClasses.f k l0 = some r) (hr1_ : Aside0 (r = true)) :
    Calls Try.prog 8 #[.slice A0 l0.length c0] w fun e w' => e = .returned (.bool r) ∧ Below w.heap.size w w' := by
  have hu33 := Try.underlying33
  have HR0 := Aside0.mk hr0
  have HC0 := Aside0.mk hc0
  clear hr0 hc0
  have HB := Aside0.mk (Below.refl w.heap.size w)
  have H := h
  unfold laws_FnClasses.f at H
  clear h
  by_cases c2 : (l0.length : Int) > 1048576
  · rw [if_pos c2] at H
    have c2b0 : decide (1048576 < (l0.length : Int)) = true := decide_eq_true c2
    have c2b1 : decide (1048576 < l0.length) = true := decide_eq_true (by omega)
    clear c2
    obtain rfl := Option.some.inj H
    go_enter Try.func8, Try.ntmps8
    go_wp2
    go_ret
    exact ⟨qb_, hB_⟩
  · rw [if_neg c2] at H
    have c2b0 : decide (1048576 < (l0.length : Int)) = false := decide_eq_false c2
    have c2b1 : decide (1048576 < l0.length) = false := decide_eq_false (by omega)
    clear c2
    obtain ⟨y1276, hy1276⟩ : ∃ y_ : List Int, y_ = (([1, 2, 3, 3, 2, 3, 3, 3, 3, 3, 3, 4] : List Int)) := ⟨_, rfl⟩
    replace H : ((spec_MakeNum.f k l0 1).bind fun t1279 => (if 0 ≤ (Int.tmod t1279 12) then (if (Int.tmod t1279 12) < (y1276.length : Int) then ((impl_OrbitsWith.f k (rd y1276 (Int.tmod t1279 12))).bind fun t1281 => (laws_FnClasses.l0 k (rd y1276 (Int.tmod t1279 12)) t1281 0 (t1281.length : Int) 0)) else (none)) else (none))) = some r := by first | (rw [hy1276]; exact H) | exact H
    have Ny1276 := Aside0.mk hy1276
    clear hy1276
    obtain ⟨t1279, A3, H⟩ := bi_ H
    obtain ⟨ji4, hji4⟩ : ∃ j_ : Int, (Int.tmod t1279 12) = j_ := ⟨_, rfl⟩
    replace H : (if 0 ≤ (ji4) then (if (ji4) < (y1276.length : Int) then ((impl_OrbitsWith.f k (rd y1276 (ji4))).bind fun t1281 => (laws_FnClasses.l0 k (rd y1276 (ji4)) t1281 0 (t1281.length : Int) 0)) else (none)) else (none)) = some r := by first | (rw [hji4] at H; exact H) | (simp only [hji4] at H ⊢; exact H)
    (try rw [hji4] at A3)
    have c5 := cp_ H
    replace H := ca_ H
    have c5b0 := decide_eq_true c5
    clear c5
    have c6 := cp_ H
    replace H := ca_ H
    have c6b0 := decide_eq_true c6
    clear c6
    obtain ⟨t1281, A7, H⟩ := bi_ H
    have H' := Aside0.mk H
    clear H
    go_enter Try.func8, Try.ntmps8
    go_wp2_with (first | ((with_reducible refine gate_dst (N := 13) rfl ?_); (try (refine gate_guard (by rfl) ?_; dsimp only)); refine Kd.R_lit (Kd.int .i64) _ 3 ?hg (N := 13) ?hd (xs := ([1, 2, 3, 3, 2, 3, 3, 3, 3, 3, 3, 4] : List Int)) (inner := [.int .i64 1, .int .i64 2, .int .i64 3, .int .i64 3, .int .i64 2, .int .i64 3, .int .i64 3, .int .i64 3, .int .i64 3, .int .i64 3, .int .i64 3, .int .i64 4]) (ok := fun _ => True) (okp := fun _ => True) ?hr ?hp (fun _ hk => hk) trivial (Below.refl _ _) (Nat.le_refl _) (by simp) ?_; (case hd => rfl); (case hg => rfl); (case hr => first | (go_simp; done) | (go_simp; rfl)); (case hp => exact (Reps.one (show Kd.M (Kd.int .i64) _ _ _ 1 [.int .i64 1] from rfl) (Reps.one (show Kd.M (Kd.int .i64) _ _ _ 2 [.int .i64 2] from rfl) (Reps.one (show Kd.M (Kd.int .i64) _ _ _ 3 [.int .i64 3] from rfl) (Reps.one (show Kd.M (Kd.int .i64) _ _ _ 3 [.int .i64 3] from rfl) (Reps.one (show Kd.M (Kd.int .i64) _ _ _ 2 [.int .i64 2] from rfl) (Reps.one (show Kd.M (Kd.int .i64) _ _ _ 3 [.int .i64 3] from rfl) (Reps.one (show Kd.M (Kd.int .i64) _ _ _ 3 [.int .i64 3] from rfl) (Reps.one (show Kd.M (Kd.int .i64) _ _ _ 3 [.int .i64 3] from rfl) (Reps.one (show Kd.M (Kd.int .i64) _ _ _ 3 [.int .i64 3] from rfl) (Reps.one (show Kd.M (Kd.int .i64) _ _ _ 3 [.int .i64 3] from rfl) (Reps.one (show Kd.M (Kd.int .i64) _ _ _ 3 [.int .i64 3] from rfl) (Reps.one (show Kd.M (Kd.int .i64) _ _ _ 4 [.int .i64 4] from rfl) (Reps.none _ _)))))))))))))); intro v1277 w8 ho9 hb hg_ hnew_; clear hg_ hnew_; (first | rw [← Ny1276.out] at ho9 | (simp only [Int.reduceToNat] at ho9; rw [← Ny1276.out] at ho9)); have HO1278 := rl_ w ho9; replace HB := b1_ hb; clear hb ho9) | ((with_reducible refine gate_callee (f := 11) rfl ?_); refine gL_ (some 15) Try.func11 #[.slice A0 l0.length c0, .int .i64 1] rfl qa_ ?_; (with_reducible refine (spec_MakeNum.calls k _ _ l0 1 t1279 _ (cb_ HR0) HC0.out A3.out).mono ?_); rintro e w10 ⟨rfl, hb⟩; refine ⟨_, rfl, ?_⟩; replace HO1278 := rb_ HO1278 hb; replace HB := b1_ hb; clear hb; obtain ⟨Ao11, co11, eo11⟩ := Kd.R_slice HO1278.out; subst eo11; have p1280 : 0 ≤ ((ji4) : Int) := of_decide_eq_true qe_; have q1280 : (ji4) < (y1276.length : Int) := of_decide_eq_true qe_; obtain ⟨ad1280, e1280, hx1280_0⟩ := Kd.at_int (Kd.R_reads' HO1278.out).2.2 (ji4) p1280 q1280; cases e1280; replace p1280 := eq_true p1280; replace q1280 := eq_true q1280) | ((with_reducible refine gate_callee (f := 41) rfl ?_); refine gL_ (some 20) Try.func41 #[.int .i64 (rd y1276 (ji4))] rfl (by (try simp only [List.map_toArray, List.map_cons, List.map_nil]); first | done | (simp only [hji4]; rfl) | rfl | (simp only [List.length_drop, List.length_take]; rfl)) ?_; (with_reducible refine (impl_OrbitsWith.calls k (rd y1276 (ji4)) t1281 _ A7.out).mono ?_); rintro e w12 ⟨v1282, rfl, ho0, hb⟩; refine ⟨_, rfl, ?_⟩; have HO1283 := Aside0.mk (Kd.R_lower (Kd.R_new' ho0 (Kd.R_lt (rr_ HO1278))) (below_size hB_)); replace HO1278 := rb_ HO1278 hb; replace HB := b1_ hb; clear hb ho0; obtain ⟨Ao13, co13, eo13⟩ := Kd.R_slice HO1283.out; subst eo13))
    go_loopg [5, 23] k (fun kq v5 v23 w' => ∃ (x5_1 : Int) (x23_1 : Int), v5 = .int .i64 x5_1 ∧ v23 = .int .i64 x23_1 ∧ Aside0 (laws_FnClasses.l0 kq (rd y1276 (ji4)) t1281 x5_1 (t1281.length : Int) x23_1 = some r) ∧ Aside0 (kq ≤ k) ∧ Aside0 (Kd.R (M.sliceS 33 k33) 25 w' w.heap.size (fun _ => True) (.slice Ao13 t1281.length co13) t1281) ∧ Aside0 (Below w.heap.size w w'))
    case atStart => exact ⟨(0), (0), qc_, qc_, H', ⟨Nat.le_refl _⟩, ⟨(rw_ (Kd.R_mono HO1283.out (fun _ hk => trivial)))⟩, ⟨hB_⟩⟩
    case round =>
      clear H'
      obtain ⟨x5_1, x23_1, rfl, rfl, HA, HK1, HO_4, HB⟩ := hrel
      cases gk with
      | zero => exact absurd HA.out (by simp [laws_FnClasses.l0])
      | succ k1 =>
        have H := HA.out
        clear HA
        simp only [laws_FnClasses.l0] at H
        by_cases c14 : x23_1 < (t1281.length : Int)
        · rw [if_pos c14] at H
          have c14b0 := decide_eq_true c14
          clear c14
          have c1z : 0 ≤ x23_1 := Classical.byContradiction fun h_ => by rw [if_neg h_] at H; cases H
          rw [if_pos c1z] at H
          have c2z : x23_1 < (t1281.length : Int) := Classical.byContradiction fun h_ => by rw [if_neg h_] at H; cases H
          rw [if_pos c2z] at H
          obtain ⟨t1287, A15, H⟩ := bi_ H
          have HC16 := Aside0.mk H
          clear H
          have hd8 : rd_L8 t1281 x23_1 = t1287 := Option.some.inj A15.out
          obtain ⟨ad8, A8, c8, e8, hx8, hl8, hi8⟩ := at_L8 (M.sliceS_C (Kd.R_reads' HO_4.out).2.2) x23_1 c1z c2z
          cases e8
          clear hx8 hl8 hi8
          obtain ⟨ce8, hce8, hMe8, hcc8⟩ := Kd.R_getA HO_4.out [] x23_1 c1z c2z
          obtain ⟨v1288, rfl, hS8⟩ := hMe8
          have hv8 := hcc8 0 _ rfl
          rw [Nat.add_zero, show (M.sliceS 33 k33).sz = 1 from rfl, Nat.mul_one] at hv8
          have HO1289 : Aside0 (Kd.S k33 33 wr w.heap.size (fun _ => True) v1288 t1287) := ⟨by rw [← hd8]; exact Kd.S_mono hS8 (fun _ _ => trivial)⟩
          clear hcc8 hce8 hS8 hd8
          replace c1z := eq_true c1z
          replace c2z := eq_true c2z
          go_upto_region 9 with (fail)
          (try simp only [Act.put, List.setIfInBounds_toArray, List.set_cons_zero, List.set_cons_succ])
          go_cut [38] (fun v38 wc => ∃ (kq : Nat) (x38_15 : Bool), v38 = .bool x38_15 ∧ Aside0 (laws_FnClasses.j1 kq (rd y1276 (ji4)) t1281 x5_1 t1287 (t1281.length : Int) x23_1 x38_15 = some r) ∧ Aside0 (kq ≤ k1) ∧ Aside0 (Kd.R (M.sliceS 33 k33) 25 wc w.heap.size (fun k_ => True) (.slice (some ad8) t1281.length co13) t1281) ∧ Aside0 (Kd.S k33 33 wc w.heap.size (fun _ => True) v1288 t1287) ∧ Aside0 (Below w.heap.size w wc))
          case first =>
            have H := HC16.out
            clear HC16
            by_cases c18 : (t1287.length : Int) = 0
            · rw [if_pos c18] at H
              have c18b0 : ((t1287.length : Int) == 0) = true := beq_iff_eq.mpr c18
              have c18b1 : ((t1287.length : Int) != 0) = false := bne_eq_false_iff_eq.mpr c18
              clear c18
              (first | rw [c18b0] | (simp only [i64_w, i32_w]; rw [c18b0]) | skip)
              have H' := Aside0.mk H
              clear H
              obtain ⟨Ao19, co19, eo19⟩ := Kd.S_slice HO1289.out
              subst eo19
              go_wp2
              go_meet
              case rel => exact ⟨_, (true), qc_, H', ⟨by have := HK1.out; first | omega | exact Nat.le_refl _⟩, ⟨(rw_ (Kd.R_mono HO_4.out (fun _ hk => trivial)))⟩, ⟨(ss_ HO1289)⟩, ⟨hB_⟩⟩
            · rw [if_neg c18] at H
              have c18b0 : ((t1287.length : Int) == 0) = false := beq_eq_false_iff_ne.mpr c18
              have c18b1 : ((t1287.length : Int) != 0) = true := bne_iff_ne.mpr c18
              have c18b2 : ¬ (t1287 = []) := fun h_ => c18 (by rw [h_]; rfl)
              (first | rw [c18b0] | (simp only [i64_w, i32_w]; rw [c18b0]) | skip)
              have c20 := cp_ H
              replace H := ca_ H
              have c20b0 := decide_eq_true c20
              have c20b1 : decide (0 < t1287.length) = true := decide_eq_true (by omega)
              clear c20
              obtain ⟨t1291, A21, H⟩ := bi_ H
              have H' := Aside0.mk H
              clear H
              obtain ⟨Ao22, co22, eo22⟩ := Kd.S_slice HO1289.out
              subst eo22
              have p1290 : 0 ≤ (0 : Int) := (by omega)
              have q1290 : 0 < (t1287.length : Int) := of_decide_eq_true qe_
              obtain ⟨ad1290, A1290_0, c1290_0, A1290_1, c1290_1, e1290, hx1290_0, hx1290_1, hl1290_0, hi1290_0, hl1290_1, hi1290_1⟩ := at_T33 (Kd.S_reads' HO1289.out).2.2 0 p1290 q1290
              cases e1290
              obtain ⟨ce1290, hce1290, hMe1290, hcc1290⟩ := Kd.S_get HO1289.out z33 0 p1290 (by first | exact q1290 | exact of_decide_eq_true qe_ | (have e_ := (Kd.S_reads' HO1289.out).1; omega))
              obtain ⟨ve1290_0, ve1290_1, rfl, ge1290_0, ge1290_1⟩ := k33_openM hMe1290
              have hv1290_0 := hcc1290 0 _ rfl
              rw [Nat.add_zero] at hv1290_0
              replace hv1290_0 := Option.some.inj (hv1290_0.symm.trans hx1290_0)
              rw [hv1290_0] at ge1290_0
              have HL1290_0 := Aside0.mk (show Kd.R (Kd.int .i64) 3 _ _ _ _ ((rd_T33 t1287 0).f0) from ge1290_0)
              clear hv1290_0 ge1290_0
              have hv1290_1 := hcc1290 1 _ rfl
              rw [add_field _ _ 1 (by omega)] at hv1290_1
              replace hv1290_1 := Option.some.inj (hv1290_1.symm.trans hx1290_1)
              rw [hv1290_1] at ge1290_1
              have HL1290_1 := Aside0.mk (show Kd.R (Kd.int .i64) 3 _ _ _ _ ((rd_T33 t1287 0).f1) from ge1290_1)
              clear hv1290_1 ge1290_1
              clear hcc1290 hce1290
              have qi1290 : (0 < t1287.length) = True := eq_true (by omega)
              (try rw [show ((0 : Int)).toNat = 0 from rfl] at hx1290_0)
              (try rw [show 0 * 2 = 0 from rfl] at hx1290_0)
              (try rw [Addr.add_zero'] at hx1290_0)
              (try rw [show ((0 : Int)).toNat = 0 from rfl] at hx1290_1)
              (try rw [show 0 * 2 = 0 from rfl] at hx1290_1)
              (try rw [Addr.add_zero'] at hx1290_1)
              have HR1290_0 := Aside0.mk hi1290_0
              have HC1290_0 := Aside0.mk hl1290_0
              clear hi1290_0 hl1290_0
              have HR1290_1 := Aside0.mk hi1290_1
              have HC1290_1 := Aside0.mk hl1290_1
              clear hi1290_1 hl1290_1
              replace p1290 := eq_true p1290
              replace q1290 := eq_true q1290
              go_wp2_with (first | (go_at_call 42; (with_reducible refine (impl_IndexOf.calls k1 _ _ ((rd_T33 t1287 0).f0) _ _ ((rd_T33 t1287 0).f1) t1291 _ ?side1 ?side2 ?side3 ?side4 A21.out).mono ?_); (case side1 => repeat (first | exact (by repeat (first | (with_reducible exact HR1290_0.out) | (with_reducible refine Kd.C_alloc ?_ _) | (with_reducible refine Kd.C_drewN ?_ _) | (with_reducible refine Kd.C_drew ?_) | exact HR1290_0.out)) | (with_reducible refine Kd.C_alloc ?_ _) | (with_reducible refine Kd.C_drewN ?_ _) | (with_reducible refine Kd.C_drew ?_))); (case side2 => exact HC1290_0.out); (case side3 => repeat (first | exact (by repeat (first | (with_reducible exact HR1290_1.out) | (with_reducible refine Kd.C_alloc ?_ _) | (with_reducible refine Kd.C_drewN ?_ _) | (with_reducible refine Kd.C_drew ?_) | exact HR1290_1.out)) | (with_reducible refine Kd.C_alloc ?_ _) | (with_reducible refine Kd.C_drewN ?_ _) | (with_reducible refine Kd.C_drew ?_))); (case side4 => exact HC1290_1.out); rintro e w23 ⟨rfl, hb⟩; replace HO_4 := rb_ HO_4 hb; replace HO1289 := sb_ HO1289 hb; replace HL1290_0 := rb_ HL1290_0 hb; replace HL1290_1 := rb_ HL1290_1 hb; replace HR1290_0 := Aside0.mk (Kd.C_below (by repeat (first | (with_reducible exact HR1290_0.out) | (with_reducible refine Kd.C_alloc ?_ _) | (with_reducible refine Kd.C_drewN ?_ _) | (with_reducible refine Kd.C_drew ?_) | exact HR1290_0.out)) hb); replace HR1290_1 := Aside0.mk (Kd.C_below (by repeat (first | (with_reducible exact HR1290_1.out) | (with_reducible refine Kd.C_alloc ?_ _) | (with_reducible refine Kd.C_drewN ?_ _) | (with_reducible refine Kd.C_drew ?_) | exact HR1290_1.out)) hb); replace HB := b1_ hb; clear hb))
              go_meet
              case rel => exact ⟨_, ((t1291 != (t1287.length : Int))), qc_, H', ⟨by have := HK1.out; first | omega | exact Nat.le_refl _⟩, ⟨(rw_ (Kd.R_mono HO_4.out (fun _ hk => trivial)))⟩, ⟨(ss_ HO1289)⟩, ⟨hB_⟩⟩
          case rest =>
            clear HC16
            obtain ⟨kq, x38_15, rfl, HA, HJ15, HO_4, HO_7, HB⟩ := hcut
            cases kq with
            | zero => exact absurd HA.out (by simp [laws_FnClasses.j1])
            | succ kj15 =>
              have H := HA.out
              clear HA
              simp only [laws_FnClasses.j1] at H
              by_cases c24 : x38_15 = true
              · subst c24
                rw [if_pos rfl] at H
                exact absurd (Option.some.inj H) (by rw [hr1_.out]; decide)
              · replace c24 := Bool.eq_false_iff.mpr c24
                subst c24
                have H1 : (laws_FnClasses.l1 kj15 (rd y1276 (ji4)) t1281 (wrap64 (x5_1 + (t1287.length : Int))) t1287 (t1281.length : Int) x23_1 t1287 (t1287.length : Int) 0) = some r := by rw [if_neg (show ¬ (false = true) by decide)] at H; exact H
                clear H
                have H := H1
                clear H1
                have H' := Aside0.mk H
                clear H
                obtain ⟨Ao25, co25, eo25⟩ := Kd.S_slice HO_7.out
                subst eo25
                go_wp2
                go_loopg [45] kj15 (fun kq v45 w' => ∃ (x45_3 : Int), v45 = .int .i64 x45_3 ∧ Aside0 (laws_FnClasses.l1 kq (rd y1276 (ji4)) t1281 (wrap64 (x5_1 + (t1287.length : Int))) t1287 (t1281.length : Int) x23_1 t1287 (t1287.length : Int) x45_3 = some r) ∧ Aside0 (kq ≤ kj15) ∧ Aside0 (Kd.R (M.sliceS 33 k33) 25 w' w.heap.size (fun k_ => True ∧ True) (.slice (some ad8) t1281.length co13) t1281) ∧ Aside0 (Kd.S k33 33 w' w.heap.size (fun _ => True) (.slice Ao25 t1287.length co25) t1287) ∧ Aside0 (Kd.S k33 33 w' w.heap.size (fun _ => True) (.slice Ao25 t1287.length co25) t1287) ∧ Aside0 (Below w.heap.size w w'))
                case atStart => exact ⟨(0), qc_, H', ⟨Nat.le_refl _⟩, ⟨(rw_ (Kd.R_mono HO_4.out (fun _ hk => ⟨hk, hk⟩)))⟩, ⟨(ss_ HO_7)⟩, ⟨(ss_ HO_7)⟩, ⟨hB_⟩⟩
                case round =>
                  clear H'
                  obtain ⟨x45_3, rfl, HA, HK3, HO_4, HO_7, HO_43, HB⟩ := hrel
                  cases gk with
                  | zero => exact absurd HA.out (by simp [laws_FnClasses.l1])
                  | succ k3 =>
                    have H := HA.out
                    clear HA
                    simp only [laws_FnClasses.l1] at H
                    by_cases c26 : x45_3 < (t1287.length : Int)
                    · rw [if_pos c26] at H
                      have c26b0 := decide_eq_true c26
                      clear c26
                      have c27 := cp_ H
                      replace H := ca_ H
                      have c27b0 := decide_eq_true c27
                      clear c27
                      have c28 := cp_ H
                      replace H := ca_ H
                      have c28b0 := decide_eq_true c28
                      clear c28
                      obtain ⟨t1294, A29, H⟩ := bi_ H
                      have c30 := cp_ H
                      replace H := ca_ H
                      have c30b0 := decide_eq_true c30
                      have c30b1 : decide (0 < t1287.length) = true := decide_eq_true (by omega)
                      clear c30
                      obtain ⟨t1298, A31, H⟩ := bi_ H
                      obtain ⟨t1301, A32, H⟩ := bi_ H
                      by_cases c33 : t1301 = true
                      · subst c33
                        rw [if_pos rfl] at H
                        have H' := Aside0.mk H
                        clear H
                        have p1292 : 0 ≤ (x45_3 : Int) := of_decide_eq_true qe_
                        have q1292 : x45_3 < (t1287.length : Int) := of_decide_eq_true qe_
                        obtain ⟨ad1292, A1292_0, c1292_0, A1292_1, c1292_1, e1292, hx1292_0, hx1292_1, hl1292_0, hi1292_0, hl1292_1, hi1292_1⟩ := at_T33 (Kd.S_reads' HO_43.out).2.2 x45_3 p1292 q1292
                        cases e1292
                        obtain ⟨ce1292, hce1292, hMe1292, hcc1292⟩ := Kd.S_get HO_43.out z33 x45_3 p1292 (by first | exact q1292 | exact of_decide_eq_true qe_ | (have e_ := (Kd.S_reads' HO_43.out).1; omega))
                        obtain ⟨ve1292_0, ve1292_1, rfl, ge1292_0, ge1292_1⟩ := k33_openM hMe1292
                        have hv1292_0 := hcc1292 0 _ rfl
                        rw [Nat.add_zero] at hv1292_0
                        replace hv1292_0 := Option.some.inj (hv1292_0.symm.trans hx1292_0)
                        rw [hv1292_0] at ge1292_0
                        have HL1292_0 := Aside0.mk (show Kd.R (Kd.int .i64) 3 _ _ _ _ ((rd_T33 t1287 x45_3).f0) from ge1292_0)
                        clear hv1292_0 ge1292_0
                        have hv1292_1 := hcc1292 1 _ rfl
                        rw [add_field _ _ 1 (by omega)] at hv1292_1
                        replace hv1292_1 := Option.some.inj (hv1292_1.symm.trans hx1292_1)
                        rw [hv1292_1] at ge1292_1
                        have HL1292_1 := Aside0.mk (show Kd.R (Kd.int .i64) 3 _ _ _ _ ((rd_T33 t1287 x45_3).f1) from ge1292_1)
                        clear hv1292_1 ge1292_1
                        clear hcc1292 hce1292
                        have HR1292_0 := Aside0.mk hi1292_0
                        have HC1292_0 := Aside0.mk hl1292_0
                        clear hi1292_0 hl1292_0
                        have HR1292_1 := Aside0.mk hi1292_1
                        have HC1292_1 := Aside0.mk hl1292_1
                        clear hi1292_1 hl1292_1
                        replace p1292 := eq_true p1292
                        replace q1292 := eq_true q1292
                        try go_wp2_with (first | ((with_reducible refine gate_dst (N := 9) rfl ?_); (try (refine gate_guard (by rfl) ?_; dsimp only)); refine bx_ 9 #[.slice none 0 0, .slice none 0 0] 33 ?_; intro gb1293 hg w34 hbox hb; replace HO_4 := Aside0.mk (Kd.R_below (Kd.R_elderB (rr_ HO_4) gb1293 (Nat.le_of_eq hg.symm)) hb); replace HO_7 := Aside0.mk (Kd.S_below (Kd.S_elderB (ss_ HO_7) gb1293 (Nat.le_of_eq hg.symm)) hb); replace HO_43 := Aside0.mk (Kd.S_below (Kd.S_elderB (ss_ HO_43) gb1293 (Nat.le_of_eq hg.symm)) hb); replace HL1292_0 := rb_ HL1292_0 hb; replace HL1292_1 := rb_ HL1292_1 hb; replace HR1292_0 := Aside0.mk (Kd.C_below (by repeat (first | (with_reducible exact HR1292_0.out) | (with_reducible refine Kd.C_alloc ?_ _) | (with_reducible refine Kd.C_drewN ?_ _) | (with_reducible refine Kd.C_drew ?_) | exact HR1292_0.out)) hb); replace HR1292_1 := Aside0.mk (Kd.C_below (by repeat (first | (with_reducible exact HR1292_1.out) | (with_reducible refine Kd.C_alloc ?_ _) | (with_reducible refine Kd.C_drewN ?_ _) | (with_reducible refine Kd.C_drew ?_) | exact HR1292_1.out)) hb); have BK1293 := Aside0.mk hbox; have GW1293 := gw_ w hg; have GE1293 := GW1293; replace HB := b1_ hb; clear hb hbox hg; obtain ⟨hcz35_0, hcz35_1, hfz35_0, hfz35_1⟩ := c2_ BK1293))
                        have n0_ : Aside0 (Kd.R (M.sliceS 33 k33) 25 ((w34.setCell ⟨gb1293, 0, none⟩ (.slice A1292_0 ((rd_T33 t1287 x45_3).f0).length c1292_0)).setCell ⟨gb1293, 1, none⟩ (.slice A1292_1 ((rd_T33 t1287 x45_3).f1).length c1292_1)) w.heap.size (fun k_ => True ∧ True ∧ k_ ≠ gb1293) (.slice (some ad8) t1281.length co13) t1281) := ⟨(rw_ (Kd.R_mono (Kd.R_far (p := ⟨gb1293, 1, none⟩) (Kd.R_far (p := ⟨gb1293, 0, none⟩) (Kd.R_mono HO_4.out (fun k_ hk => (⟨hk, hk.2⟩ : _ ∧ k_ ≠ gb1293))) (fun _ hk => hk.2) (.slice A1292_0 ((rd_T33 t1287 x45_3).f0).length c1292_0)) (fun _ hk => hk.2) (.slice A1292_1 ((rd_T33 t1287 x45_3).f1).length c1292_1)) (fun _ hk => ⟨hk.1.1.1, ⟨hk.1.1.2, hk.1.2⟩⟩)))⟩
                        have n1_ : Aside0 (Kd.S k33 33 ((w34.setCell ⟨gb1293, 0, none⟩ (.slice A1292_0 ((rd_T33 t1287 x45_3).f0).length c1292_0)).setCell ⟨gb1293, 1, none⟩ (.slice A1292_1 ((rd_T33 t1287 x45_3).f1).length c1292_1)) w.heap.size (fun k_ => k_ ≠ gb1293) (.slice (some ad1292) t1287.length co25) t1287) := ⟨(sw_ (Kd.S_mono (Kd.S_far (p := ⟨gb1293, 1, none⟩) (Kd.S_far (p := ⟨gb1293, 0, none⟩) (Kd.S_mono HO_7.out (fun k_ hk => (⟨hk, hk.2⟩ : _ ∧ k_ ≠ gb1293))) (fun _ hk => hk.2) (.slice A1292_0 ((rd_T33 t1287 x45_3).f0).length c1292_0)) (fun _ hk => hk.2) (.slice A1292_1 ((rd_T33 t1287 x45_3).f1).length c1292_1)) (fun _ hk => hk.1.2)))⟩
                        have n2_ : Aside0 (Kd.S k33 33 ((w34.setCell ⟨gb1293, 0, none⟩ (.slice A1292_0 ((rd_T33 t1287 x45_3).f0).length c1292_0)).setCell ⟨gb1293, 1, none⟩ (.slice A1292_1 ((rd_T33 t1287 x45_3).f1).length c1292_1)) w.heap.size (fun k_ => k_ ≠ gb1293) (.slice (some ad1292) t1287.length co25) t1287) := ⟨(sw_ (Kd.S_mono (Kd.S_far (p := ⟨gb1293, 1, none⟩) (Kd.S_far (p := ⟨gb1293, 0, none⟩) (Kd.S_mono HO_43.out (fun k_ hk => (⟨hk, hk.2⟩ : _ ∧ k_ ≠ gb1293))) (fun _ hk => hk.2) (.slice A1292_0 ((rd_T33 t1287 x45_3).f0).length c1292_0)) (fun _ hk => hk.2) (.slice A1292_1 ((rd_T33 t1287 x45_3).f1).length c1292_1)) (fun _ hk => hk.1.2)))⟩
                        have n3_ : Aside0 (Kd.R (Kd.int .i64) 3 ((w34.setCell ⟨gb1293, 0, none⟩ (.slice A1292_0 ((rd_T33 t1287 x45_3).f0).length c1292_0)).setCell ⟨gb1293, 1, none⟩ (.slice A1292_1 ((rd_T33 t1287 x45_3).f1).length c1292_1)) w.heap.size (fun k_ => some k_ ≠ (.slice (some ad1292) t1287.length co25 : Value).ownBlock) (.slice A1292_0 ((rd_T33 t1287 x45_3).f0).length c1292_0) ((rd_T33 t1287 x45_3).f0)) := ⟨(rw_ (Kd.R_mono (Kd.R_far (p := ⟨gb1293, 1, none⟩) (Kd.R_far (p := ⟨gb1293, 0, none⟩) (Kd.R_types HL1292_0.out BK1293.out (by decide)) (fun _ hk => hk.2) (.slice A1292_0 ((rd_T33 t1287 x45_3).f0).length c1292_0)) (fun _ hk => hk.2) (.slice A1292_1 ((rd_T33 t1287 x45_3).f1).length c1292_1)) (fun _ hk => hk.1.2)))⟩
                        have n4_ : Aside0 (Kd.R (Kd.int .i64) 3 ((w34.setCell ⟨gb1293, 0, none⟩ (.slice A1292_0 ((rd_T33 t1287 x45_3).f0).length c1292_0)).setCell ⟨gb1293, 1, none⟩ (.slice A1292_1 ((rd_T33 t1287 x45_3).f1).length c1292_1)) w.heap.size (fun k_ => some k_ ≠ (.slice (some ad1292) t1287.length co25 : Value).ownBlock) (.slice A1292_1 ((rd_T33 t1287 x45_3).f1).length c1292_1) ((rd_T33 t1287 x45_3).f1)) := ⟨(rw_ (Kd.R_mono (Kd.R_far (p := ⟨gb1293, 1, none⟩) (Kd.R_far (p := ⟨gb1293, 0, none⟩) (Kd.R_types HL1292_1.out BK1293.out (by decide)) (fun _ hk => hk.2) (.slice A1292_0 ((rd_T33 t1287 x45_3).f0).length c1292_0)) (fun _ hk => hk.2) (.slice A1292_1 ((rd_T33 t1287 x45_3).f1).length c1292_1)) (fun _ hk => hk.1.2)))⟩
                        have n5_ : Aside0 (((w34.setCell ⟨gb1293, 0, none⟩ (.slice A1292_0 ((rd_T33 t1287 x45_3).f0).length c1292_0)).setCell ⟨gb1293, 1, none⟩ (.slice A1292_1 ((rd_T33 t1287 x45_3).f1).length c1292_1)).heap[gb1293]? = some (.cells #[.slice A1292_0 ((rd_T33 t1287 x45_3).f0).length c1292_0, .slice A1292_1 ((rd_T33 t1287 x45_3).f1).length c1292_1] 33 (0, 0))) := ⟨qp_⟩
                        have n6_ : Aside0 (Below w.heap.size w ((w34.setCell ⟨gb1293, 0, none⟩ (.slice A1292_0 ((rd_T33 t1287 x45_3).f0).length c1292_0)).setCell ⟨gb1293, 1, none⟩ (.slice A1292_1 ((rd_T33 t1287 x45_3).f1).length c1292_1))) := ⟨hB_⟩
                        (try clear HO_4)
                        (try clear HO_7)
                        (try clear HO_43)
                        (try clear HL1292_0)
                        (try clear HL1292_1)
                        (try clear BK1293)
                        (try clear HB)
                        generalize ((w34.setCell ⟨gb1293, 0, none⟩ (.slice A1292_0 ((rd_T33 t1287 x45_3).f0).length c1292_0)).setCell ⟨gb1293, 1, none⟩ (.slice A1292_1 ((rd_T33 t1287 x45_3).f1).length c1292_1)) = w36 at n0_ n1_ n2_ n3_ n4_ n5_ n6_ ⊢
                        have HO_4 := n0_
                        have HO_7 := n1_
                        have HO_43 := n2_
                        have HL1292_0 := n3_
                        have HL1292_1 := n4_
                        have BK1293 := n5_
                        have HB := n6_
                        clear n0_ n1_ n2_ n3_ n4_ n5_ n6_
                        replace HO_4 := Aside0.mk (Kd.R_drew HO_4.out)
                        replace HO_7 := Aside0.mk (Kd.S_drew HO_7.out)
                        replace HO_43 := Aside0.mk (Kd.S_drew HO_43.out)
                        replace HL1292_0 := Aside0.mk (Kd.R_drew HL1292_0.out)
                        replace HL1292_1 := Aside0.mk (Kd.R_drew HL1292_1.out)
                        replace BK1293 := Aside0.mk (blk_drew BK1293.out)
                        replace HB := Aside0.mk (below_drew1 HB.out)
                        have p1297 : 0 ≤ (0 : Int) := (by omega)
                        have q1297 : 0 < (t1287.length : Int) := of_decide_eq_true qe_
                        obtain ⟨ad1297, A1297_0, c1297_0, A1297_1, c1297_1, e1297, hx1297_0, hx1297_1, hl1297_0, hi1297_0, hl1297_1, hi1297_1⟩ := at_T33 (Kd.S_reads' HO_7.out).2.2 0 p1297 q1297
                        obtain rfl : ad1292 = ad1297 := (by injection e1297)
                        obtain ⟨ce1297, hce1297, hMe1297, hcc1297⟩ := Kd.S_get HO_7.out z33 0 p1297 (by first | exact q1297 | exact of_decide_eq_true qe_ | (have e_ := (Kd.S_reads' HO_7.out).1; omega))
                        obtain ⟨ve1297_0, ve1297_1, rfl, ge1297_0, ge1297_1⟩ := k33_openM hMe1297
                        have hv1297_0 := hcc1297 0 _ rfl
                        rw [Nat.add_zero] at hv1297_0
                        replace hv1297_0 := Option.some.inj (hv1297_0.symm.trans hx1297_0)
                        rw [hv1297_0] at ge1297_0
                        have HL1297_0 := Aside0.mk (show Kd.R (Kd.int .i64) 3 _ _ _ _ ((rd_T33 t1287 0).f0) from ge1297_0)
                        clear hv1297_0 ge1297_0
                        have hv1297_1 := hcc1297 1 _ rfl
                        rw [add_field _ _ 1 (by omega)] at hv1297_1
                        replace hv1297_1 := Option.some.inj (hv1297_1.symm.trans hx1297_1)
                        rw [hv1297_1] at ge1297_1
                        have HL1297_1 := Aside0.mk (show Kd.R (Kd.int .i64) 3 _ _ _ _ ((rd_T33 t1287 0).f1) from ge1297_1)
                        clear hv1297_1 ge1297_1
                        clear hcc1297 hce1297
                        have qi1297 : (0 < t1287.length) = True := eq_true (by omega)
                        (try rw [show ((0 : Int)).toNat = 0 from rfl] at hx1297_0)
                        (try rw [show 0 * 2 = 0 from rfl] at hx1297_0)
                        (try rw [Addr.add_zero'] at hx1297_0)
                        (try rw [show ((0 : Int)).toNat = 0 from rfl] at hx1297_1)
                        (try rw [show 0 * 2 = 0 from rfl] at hx1297_1)
                        (try rw [Addr.add_zero'] at hx1297_1)
                        have HR1297_0 := Aside0.mk hi1297_0
                        have HC1297_0 := Aside0.mk hl1297_0
                        clear hi1297_0 hl1297_0
                        have HR1297_1 := Aside0.mk hi1297_1
                        have HC1297_1 := Aside0.mk hl1297_1
                        clear hi1297_1 hl1297_1
                        replace p1297 := eq_true p1297
                        replace q1297 := eq_true q1297
                        refine start_ (n := 8) (S := fun w' => w'.cell? ⟨gb1293, 0, none⟩ = some (.slice A1292_0 ((rd_T33 t1287 x45_3).f0).length c1292_0) ∧ w'.cell? ⟨gb1293, 1, none⟩ = some (.slice A1292_1 ((rd_T33 t1287 x45_3).f1).length c1292_1) ∧ w'.cell? ad1292 = some (.slice A1297_0 ((rd_T33 t1287 0).f0).length c1297_0) ∧ w'.cell? ⟨ad1292.block, ad1292.off + 1, none⟩ = some (.slice A1297_1 ((rd_T33 t1287 0).f1).length c1297_1)) (ds := []) (bl_ 8 0) (by kernel_rfl) rfl (by kernel_rfl) ⟨cz0_ BK1293, cz1_ BK1293, hx1297_0, hx1297_1⟩ (fun hHeld => ?_); refine with_tabW laws_FnClasses.tab15 laws_FnClasses.bits15 (fun HT_ HW_ => ?_)
                        generalize w36.drew = w37 at HO_4 HO_7 HO_43 HL1292_0 HL1292_1 BK1293 HB HL1297_0 HL1297_1 HR1297_0 HR1297_1 hx1297_0 hx1297_1 hHeld ⊢
                        refine pu_ 2 (some 51) (bl_ 8 4) HT_ ?_
                        refine pu_ 3 (some 52) (bl_ 8 12) HT_ ?_
                        refine ta_ 0 (some 49) (bl_ 8 13) HT_ HW_ hHeld ?_
                        refine ta_ 4 (some 53) (bl_ 8 29) HT_ HW_ hHeld ?_
                        refine on_ 1 (some 50) (bl_ 8 31) HT_ (fun K hK => ?_)
                        refine gO_ Try.func26 #[.agg #[.slice A1292_0 ((rd_T33 t1287 x45_3).f0).length c1292_0, .slice A1292_1 ((rd_T33 t1287 x45_3).f1).length c1292_1]] (by rfl) rfl rfl qa_ ?_
                        with_reducible refine (impl_StratumOf.calls k3 _ _ ((rd_T33 t1287 x45_3).f0) _ _ ((rd_T33 t1287 x45_3).f1) t1294 _ (cw_ ((Kd.R_reads' (rr_ HL1292_0)).2.2)) HC1292_0.out (cw_ ((Kd.R_reads' (rr_ HL1292_1)).2.2)) HC1292_1.out A29.out).mono ?_
                        rintro e w38 ⟨v1295, rfl, ho0, hb⟩
                        have HS2_ := (hb.cell (World.block_lt_of_cell? _ _ (hHeld.2.2.1))).trans (hHeld.2.2.1)
                        have HS3_ := (hb.cell (World.block_lt_of_cell? _ _ (hHeld.2.2.2))).trans (hHeld.2.2.2)
                        refine ⟨_, rfl, ?_⟩
                        replace HO_4 := Aside0.mk (Kd.R_elder' (rr_ HO_4) (Kd.R_base ho0) hb)
                        replace HO_7 := Aside0.mk (Kd.S_elder' (ss_ HO_7) (Kd.R_base ho0) hb)
                        replace HO_43 := Aside0.mk (Kd.S_elder' (ss_ HO_43) (Kd.R_base ho0) hb)
                        have HO1296 := Aside0.mk (Kd.R_lower (Kd.R_new' (Kd.R_new' (Kd.R_new' (Kd.R_new' ho0 (Kd.R_lt (rr_ HL1292_0))) (Kd.R_lt (rr_ HL1292_1))) (Kd.R_lt (rr_ HL1297_0))) (Kd.R_lt (rr_ HL1297_1))) (below_size hB_))
                        replace HL1292_0 := Aside0.mk (Kd.R_elder' (rr_ HL1292_0) (Kd.R_base ho0) hb)
                        replace HL1292_1 := Aside0.mk (Kd.R_elder' (rr_ HL1292_1) (Kd.R_base ho0) hb)
                        replace HL1297_0 := Aside0.mk (Kd.R_elder' (rr_ HL1297_0) (Kd.R_base ho0) hb)
                        replace HL1297_1 := Aside0.mk (Kd.R_elder' (rr_ HL1297_1) (Kd.R_base ho0) hb)
                        replace BK1293 := bb_ BK1293 hb
                        replace HR1297_0 := Aside0.mk (Kd.C_below (by repeat (first | (with_reducible exact HR1297_0.out) | (with_reducible refine Kd.C_alloc ?_ _) | (with_reducible refine Kd.C_drewN ?_ _) | (with_reducible refine Kd.C_drew ?_) | exact HR1297_0.out)) hb)
                        replace HR1297_1 := Aside0.mk (Kd.C_below (by repeat (first | (with_reducible exact HR1297_1.out) | (with_reducible refine Kd.C_alloc ?_ _) | (with_reducible refine Kd.C_drewN ?_ _) | (with_reducible refine Kd.C_drew ?_) | exact HR1297_1.out)) hb)
                        replace HB := b1_ hb
                        clear hb ho0
                        refine hK.out _ _ ⟨cz0_ BK1293, cz1_ BK1293, HS2_, HS3_⟩ (fun hHeld => ?_)
                        clear hK K
                        refine no_ (some 50) ?_
                        refine on_ 5 (some 54) (bl_ 8 63) HT_ (fun K hK => ?_)
                        refine gO_ Try.func26 #[.agg #[.slice A1297_0 ((rd_T33 t1287 0).f0).length c1297_0, .slice A1297_1 ((rd_T33 t1287 0).f1).length c1297_1]] (by rfl) rfl rfl qa_ ?_
                        with_reducible refine (impl_StratumOf.calls k3 _ _ ((rd_T33 t1287 0).f0) _ _ ((rd_T33 t1287 0).f1) t1298 _ ?side1 ?side2 ?side3 ?side4 A31.out).mono ?_
                        (case side1 => repeat (first | exact (by repeat (first | (with_reducible exact HR1297_0.out) | (with_reducible refine Kd.C_alloc ?_ _) | (with_reducible refine Kd.C_drewN ?_ _) | (with_reducible refine Kd.C_drew ?_) | exact HR1297_0.out)) | (with_reducible refine Kd.C_alloc ?_ _) | (with_reducible refine Kd.C_drewN ?_ _) | (with_reducible refine Kd.C_drew ?_)))
                        (case side2 => exact HC1297_0.out)
                        (case side3 => repeat (first | exact (by repeat (first | (with_reducible exact HR1297_1.out) | (with_reducible refine Kd.C_alloc ?_ _) | (with_reducible refine Kd.C_drewN ?_ _) | (with_reducible refine Kd.C_drew ?_) | exact HR1297_1.out)) | (with_reducible refine Kd.C_alloc ?_ _) | (with_reducible refine Kd.C_drewN ?_ _) | (with_reducible refine Kd.C_drew ?_)))
                        (case side4 => exact HC1297_1.out)
                        rintro e w39 ⟨v1299, rfl, ho0, hb⟩
                        have HS2_ := (hb.cell (World.block_lt_of_cell? _ _ (hHeld.2.2.1))).trans (hHeld.2.2.1)
                        have HS3_ := (hb.cell (World.block_lt_of_cell? _ _ (hHeld.2.2.2))).trans (hHeld.2.2.2)
                        refine ⟨_, rfl, ?_⟩
                        replace HO_4 := Aside0.mk (Kd.R_elder' (rr_ HO_4) (Kd.R_base ho0) hb)
                        replace HO_7 := Aside0.mk (Kd.S_elder' (ss_ HO_7) (Kd.R_base ho0) hb)
                        replace HO_43 := Aside0.mk (Kd.S_elder' (ss_ HO_43) (Kd.R_base ho0) hb)
                        have HO1300 := Aside0.mk (Kd.R_lower (Kd.R_new' (Kd.R_new' (Kd.R_new' (Kd.R_new' (Kd.R_new' ho0 (Kd.R_lt (rr_ HL1292_0))) (Kd.R_lt (rr_ HL1292_1))) (Kd.R_lt (rr_ HL1297_0))) (Kd.R_lt (rr_ HL1297_1))) (Kd.R_lt (rr_ HO1296))) (below_size hB_))
                        replace HL1292_0 := Aside0.mk (Kd.R_elder' (rr_ HL1292_0) (Kd.R_base ho0) hb)
                        replace HL1292_1 := Aside0.mk (Kd.R_elder' (rr_ HL1292_1) (Kd.R_base ho0) hb)
                        replace HL1297_0 := Aside0.mk (Kd.R_elder' (rr_ HL1297_0) (Kd.R_base ho0) hb)
                        replace HL1297_1 := Aside0.mk (Kd.R_elder' (rr_ HL1297_1) (Kd.R_base ho0) hb)
                        replace HO1296 := Aside0.mk (Kd.R_elder' (rr_ HO1296) (Kd.R_base ho0) hb)
                        replace BK1293 := bb_ BK1293 hb
                        replace HR1297_0 := Aside0.mk (Kd.C_below (by repeat (first | (with_reducible exact HR1297_0.out) | (with_reducible refine Kd.C_alloc ?_ _) | (with_reducible refine Kd.C_drewN ?_ _) | (with_reducible refine Kd.C_drew ?_) | exact HR1297_0.out)) hb)
                        replace HR1297_1 := Aside0.mk (Kd.C_below (by repeat (first | (with_reducible exact HR1297_1.out) | (with_reducible refine Kd.C_alloc ?_ _) | (with_reducible refine Kd.C_drewN ?_ _) | (with_reducible refine Kd.C_drew ?_) | exact HR1297_1.out)) hb)
                        replace HB := b1_ hb
                        clear hb ho0
                        obtain ⟨Ao40, co40, eo40⟩ := Kd.R_slice HO1296.out
                        (first | subst eo40 | (injection eo40 with f1_ f2_ f3_; have f4_ := f1_.symm; have f5_ := f3_.symm; clear f1_ f2_ f3_; subst f4_; subst f5_))
                        obtain ⟨Ao41, co41, eo41⟩ := Kd.R_slice HO1300.out
                        (first | subst eo41 | (injection eo41 with f1_ f2_ f3_; have f4_ := f1_.symm; have f5_ := f3_.symm; clear f1_ f2_ f3_; subst f4_; subst f5_))
                        refine hK.out _ _ ⟨cz0_ BK1293, cz1_ BK1293, HS2_, HS3_⟩ (fun hHeld => ?_)
                        clear hK K
                        refine no_ (some 54) ?_
                        refine on_ 6 (some 55) (bl_ 8 127) HT_ (fun K hK => ?_)
                        refine gO_ Try.func24 #[.slice Ao40 t1294.length co40, .slice Ao41 t1298.length co41] (by rfl) rfl rfl qa_ ?_
                        with_reducible refine (laws_same.calls k3 _ _ t1294 _ _ t1298 true _ (cr_ HO1296) ((Kd.R_reads' HO1296.out).2.1) (cr_ HO1300) ((Kd.R_reads' HO1300.out).2.1) A32.out).mono ?_
                        rintro e w' ⟨rfl, ⟨nd, rfl⟩⟩
                        refine ⟨_, rfl, ?_⟩
                        refine hK.out _ _ ⟨cz0_ BK1293, cz1_ BK1293, hHeld.2.2.1, hHeld.2.2.2⟩ (fun hHeld => ?_)
                        clear hK K
                        refine no_ (some 55) ?_
                        refine pu_ 7 (some 56) (bl_ 8 255) HT_ ?_
                        refine done_ (done_of HT_.out (by kernel_rfl)) ?_
                        try go_wp2
                        go_roundg k3
                        case measure => have := HK1.out; have := HJ15.out; have := HK3.out; omega
                        case rel => exact ⟨(wrap64 (x45_3 + 1)), qc_, H', ⟨by have := HK1.out; have := HJ15.out; have := HK3.out; omega⟩, ⟨(rw_ (Kd.R_mono HO_4.out (fun _ hk => ⟨hk.1.1.1, hk.1.1.2.1⟩)))⟩, ⟨(sw_ (Kd.S_mono HO_7.out (fun _ hk => trivial)))⟩, ⟨(sw_ (Kd.S_mono HO_43.out (fun _ hk => trivial)))⟩, ⟨hB_⟩⟩
                      · replace c33 := Bool.eq_false_iff.mpr c33
                        subst c33
                        have H1 : (some false) = some r := by rw [if_neg (show ¬ (false = true) by decide)] at H; exact H
                        clear H
                        have H := H1
                        clear H1
                        exact absurd (Option.some.inj H) (by rw [hr1_.out]; decide)
                    · rw [if_neg c26] at H
                      have c26b0 := decide_eq_false c26
                      clear c26
                      have H' := Aside0.mk H
                      clear H
                      go_wp2
                      go_roundg k3
                      case measure => have := HK1.out; have := HJ15.out; have := HK3.out; omega
                      case rel => exact ⟨((wrap64 (x5_1 + (t1287.length : Int)))), (wrap64 (x23_1 + 1)), qc_, qc_, H', ⟨by have := HK1.out; have := HJ15.out; have := HK3.out; omega⟩, ⟨(rw_ (Kd.R_mono HO_4.out (fun _ hk => trivial)))⟩, ⟨hB_⟩⟩
        · rw [if_neg c14] at H
          have c14b0 := decide_eq_false c14
          clear c14
          obtain ⟨t1284, A42, H⟩ := bi_ H
          by_cases c43 : x5_1 = (t1284.length : Int)
          · rw [if_pos c43] at H
            have c43b0 : (x5_1 == (t1284.length : Int)) = true := beq_iff_eq.mpr c43
            have c43b1 : (x5_1 != (t1284.length : Int)) = false := bne_eq_false_iff_eq.mpr c43
            clear c43
            obtain rfl := Option.some.inj H
            go_wp2_with (first | ((with_reducible refine gate_callee (f := 12) rfl ?_); refine gL_ (some 61) Try.func12 #[.int .i64 (rd y1276 (ji4))] rfl (by (try simp only [List.map_toArray, List.map_cons, List.map_nil]); first | done | (simp only [hji4]; rfl) | rfl | (simp only [List.length_drop, List.length_take]; rfl)) ?_; (with_reducible refine (impl_SurfacesWith.calls k1 (rd y1276 (ji4)) t1284 _ A42.out).mono ?_); rintro e w44 ⟨v1285, rfl, ho0, hb⟩; refine ⟨_, rfl, ?_⟩; replace HO_4 := Aside0.mk (Kd.R_elder' (rr_ HO_4) (Kd.S_base ho0) hb); have HO1286 := Aside0.mk (Kd.S_lower ho0 (below_size hB_)); replace HB := b1_ hb; clear hb ho0; obtain ⟨Ao45, co45, eo45⟩ := Kd.S_slice HO1286.out; subst eo45))
            go_ret
            exact ⟨by first | rfl | (simp [errW_none, errW_some] <;> rfl) | (simp only [← hji4]; first | rfl | (simp [errW_none, errW_some] <;> rfl)) | (simp [*, errW_none, errW_some] <;> rfl), hB_⟩
          · rw [if_neg c43] at H
            have c43b0 : (x5_1 == (t1284.length : Int)) = false := beq_eq_false_iff_ne.mpr c43
            have c43b1 : (x5_1 != (t1284.length : Int)) = true := bne_iff_ne.mpr c43
            exact absurd (Option.some.inj H) (by rw [hr1_.out]; decide)
end Go.Proofs.Ytoijcallajegfaa.A
end
section
/- Plain mathematics: surfaces that are alike by renaming. No conditions. -/
namespace Go.Proofs.Ytoijcallajegfaa.M
set_option linter.unusedVariables false
set_option linter.unusedSimpArgs false
structure Is (s t : List Nat × List Nat) (f : Nat → Nat) : Prop where
  len : t.1.length = s.1.length
  lt : ∀ x, x < s.1.length → f x < s.1.length
  inj : ∀ x y, x < s.1.length → y < s.1.length → f x = f y → x = y
  r : ∀ x, x < s.1.length → f (g s.1 x) = g t.1 (f x)
  u : ∀ x, x < s.1.length → f (g s.2 x) = g t.2 (f x)
theorem Sf.gr {r u : List Nat} (hs : Sf r u) {x : Nat} (h : x < r.length) : g r x < r.length := g_lt hs.pr h
theorem Sf.gu {r u : List Nat} (hs : Sf r u) {x : Nat} (h : x < r.length) : g u x < r.length := by
  have := g_lt hs.pu (i := x) (by rw [hs.eq]; exact h)
  rw [hs.eq] at this
  exact this
theorem Sf.ir {r u : List Nat} (hs : Sf r u) {x : Nat} (h : x < r.length) : ix r x < r.length := ix_lt hs.pr h
theorem Sf.iu {r u : List Nat} (hs : Sf r u) {x : Nat} (h : x < r.length) : ix u x < r.length := by
  have := ix_lt hs.pu (x := x) (by rw [hs.eq]; exact h)
  rw [hs.eq] at this
  exact this
theorem Is.refl (s : List Nat × List Nat) : Is s s (fun x => x) := ⟨rfl, fun _ h => h, fun _ _ _ _ h => h, fun _ _ => rfl, fun _ _ => rfl⟩
theorem Is.trans {s t v : List Nat × List Nat} {f h : Nat → Nat} (a : Is s t f) (b : Is t v h) : Is s v (fun x => h (f x)) where
  len := b.len.trans a.len
  lt x hx := by have := b.lt (f x) (by rw [a.len]; exact a.lt x hx); rw [a.len] at this; exact this
  inj x y hx hy e := a.inj x y hx hy (b.inj _ _ (by rw [a.len]; exact a.lt x hx) (by rw [a.len]; exact a.lt y hy) e)
  r x hx := by show h (f (g s.1 x)) = _; rw [a.r x hx, b.r _ (by rw [a.len]; exact a.lt x hx)]
  u x hx := by show h (f (g s.2 x)) = _; rw [a.u x hx, b.u _ (by rw [a.len]; exact a.lt x hx)]
def bk (n : Nat) (f : Nat → Nat) (y : Nat) : Nat := ix (tab n f) y
theorem bk_lt {n : Nat} {f : Nat → Nat} (h1 : ∀ x, x < n → f x < n) (h2 : ∀ x y, x < n → y < n → f x = f y → x = y) {y : Nat} (hy : y < n) : bk n f y < n := by
  have := ix_lt (isP_tab h1 h2) (x := y) (by rw [tab_len]; exact hy)
  rw [tab_len] at this
  exact this
theorem f_bk {n : Nat} {f : Nat → Nat} (h1 : ∀ x, x < n → f x < n) (h2 : ∀ x y, x < n → y < n → f x = f y → x = y) {y : Nat} (hy : y < n) : f (bk n f y) = y := by
  have h := g_ix (isP_tab h1 h2) (x := y) (by rw [tab_len]; exact hy)
  have hb : ix (tab n f) y < n := bk_lt h1 h2 hy
  rw [g_tab hb] at h
  exact h
theorem bk_f {n : Nat} {f : Nat → Nat} (h1 : ∀ x, x < n → f x < n) (h2 : ∀ x y, x < n → y < n → f x = f y → x = y) {x : Nat} (hx : x < n) : bk n f (f x) = x :=
  h2 _ _ (bk_lt h1 h2 (h1 x hx)) hx (f_bk h1 h2 (h1 x hx))
theorem Is.symm {s t : List Nat × List Nat} {f : Nat → Nat} (hs : Sf s.1 s.2) (a : Is s t f) : Is t s (bk s.1.length f) where
  len := a.len.symm
  lt y hy := by rw [a.len] at hy ⊢; exact bk_lt a.lt a.inj hy
  inj y z hy hz e := by
    rw [a.len] at hy hz
    rw [← f_bk a.lt a.inj hy, ← f_bk a.lt a.inj hz, e]
  r y hy := by
    rw [a.len] at hy
    have hb := bk_lt a.lt a.inj hy
    have e : g t.1 y = f (g s.1 (bk s.1.length f y)) := by rw [a.r _ hb, f_bk a.lt a.inj hy]
    rw [e, bk_f a.lt a.inj (hs.gr hb)]
  u y hy := by
    rw [a.len] at hy
    have hb := bk_lt a.lt a.inj hy
    have e : g t.2 y = f (g s.2 (bk s.1.length f y)) := by rw [a.u _ hb, f_bk a.lt a.inj hy]
    rw [e, bk_f a.lt a.inj (hs.gu hb)]
theorem Sf.of_is {s t : List Nat × List Nat} {f : Nat → Nat} (hs : Sf s.1 s.2) (a : Is s t f) (p1 : IsP t.1) (p2 : IsP t.2) (hl : t.2.length = t.1.length) : Sf t.1 t.2 := by
  refine sf_of_tr p1 p2 (by rw [a.len]; exact hs.le) hl (by rw [a.len]; exact hs.pos) (fun S s0 k1 k2 y hy => ?_)
  rw [a.len] at k1 k2 hy
  have i0 := bk_lt a.lt a.inj hs.pos
  have h0 : S (f (bk s.1.length f 0)) := by rw [f_bk a.lt a.inj hs.pos]; exact s0
  have hm := (reach_full hs i0).2 (bk s.1.length f y) (bk_lt a.lt a.inj hy)
  have := (bfs_ind (fun x => S (f x)) (n := s.1.length) (fun x hx h => ⟨by rw [a.r x hx]; exact k1 _ (a.lt x hx) h, hs.gr hx⟩) (fun x hx h => ⟨by rw [a.u x hx]; exact k2 _ (a.lt x hx) h, hs.gu hx⟩) _ _ [bk s.1.length f 0] (by intro x hx; obtain rfl : x = bk s.1.length f 0 := (by simpa using hx); exact ⟨h0, i0⟩) _ hm).1
  rw [f_bk a.lt a.inj hy] at this
  exact this
theorem Sf.all_of {r u : List Nat} (hs : Sf r u) {S : Nat → Prop} {i : Nat} (hi : i < r.length) (h0 : S i) (h1 : ∀ x, x < r.length → S x → S (g r x)) (h2 : ∀ x, x < r.length → S x → S (g u x)) : ∀ y, y < r.length → S y := by
  intro y hy
  have hm := (reach_full hs hi).2 y hy
  exact (bfs_ind S (n := r.length) (fun x hx h => ⟨h1 x hx h, hs.gr hx⟩) (fun x hx h => ⟨h2 x hx h, hs.gu hx⟩) _ _ [i] (by intro x hx; obtain rfl : x = i := (by simpa using hx); exact ⟨h0, hi⟩) _ hm).1
theorem Is.ir {s t : List Nat × List Nat} {f : Nat → Nat} (hs : Sf s.1 s.2) (ht : Sf t.1 t.2) (a : Is s t f) {x : Nat} (hx : x < s.1.length) : f (ix s.1 x) = ix t.1 (f x) := by
  have h1 := hs.ir hx
  refine (ix_eq ht.pr (by rw [a.len]; exact a.lt _ h1) ?_).symm
  rw [← a.r _ h1, g_ix hs.pr hx]
theorem Is.iu {s t : List Nat × List Nat} {f : Nat → Nat} (hs : Sf s.1 s.2) (ht : Sf t.1 t.2) (a : Is s t f) {x : Nat} (hx : x < s.1.length) : f (ix s.2 x) = ix t.2 (f x) := by
  have h1 := hs.iu hx
  refine (ix_eq ht.pu (by rw [ht.eq, a.len]; exact a.lt _ h1) ?_).symm
  rw [← a.u _ h1, g_ix hs.pu (by rw [hs.eq]; exact hx)]
end Go.Proofs.Ytoijcallajegfaa.M
end
section
/- The canonical form tells which surfaces are alike. No conditions. -/
namespace Go.Proofs.Ytoijcallajegfaa.M
set_option linter.unusedVariables false
set_option linter.unusedSimpArgs false
theorem is_rS {s : List Nat × List Nat} (hs : Sf s.1 s.2) {i : Nat} (hi : i < s.1.length) : Is s (rS s.1 s.2 i) (g (nm s.1 s.2 i)) := by
  obtain ⟨p, l⟩ := isP_nm hs hi
  refine ⟨(rS_len i).1, fun x hx => ?_, fun x y hx hy e => g_inj p (by rw [l]; exact hx) (by rw [l]; exact hy) e, fun x hx => ?_, fun x hx => ?_⟩
  · have := g_lt p (i := x) (by rw [l]; exact hx)
    rw [l] at this
    exact this
  · have h1 := g_lt p (i := x) (by rw [l]; exact hx)
    rw [l] at h1
    show _ = g (ren s.1 (nm s.1 s.2 i)) _
    rw [g_ren h1, ix_g p (by rw [l]; exact hx)]
  · have h1 := g_lt p (i := x) (by rw [l]; exact hx)
    rw [l] at h1
    show _ = g (ren s.2 (nm s.1 s.2 i)) _
    rw [g_ren (by rw [hs.eq]; exact h1), ix_g p (by rw [l]; exact hx)]
theorem sf_rS {s : List Nat × List Nat} (hs : Sf s.1 s.2) {i : Nat} (hi : i < s.1.length) : Sf (rS s.1 s.2 i).1 (rS s.1 s.2 i).2 := by
  obtain ⟨p, l⟩ := isP_nm hs hi
  have h := rS_len (r := s.1) (u := s.2) i
  exact hs.of_is (is_rS hs hi) (isP_ren hs.pr p l.symm) (isP_ren hs.pu p (by rw [l, hs.eq])) (by rw [h.1, h.2, hs.eq])
theorem canK_at (r u : List Nat) : ∀ k, ∃ i, i ≤ k ∧ canK r u k = rS r u i := by
  intro k
  induction k with
  | zero => exact ⟨0, Nat.le_refl _, rfl⟩
  | succ k ih =>
    obtain ⟨i, hi, e⟩ := ih
    unfold canK
    split
    · exact ⟨k + 1, Nat.le_refl _, rfl⟩
    · exact ⟨i, by omega, e⟩
theorem canS_at {r u : List Nat} (hs : Sf r u) : ∃ i, i < r.length ∧ canS r u = rS r u i := by
  obtain ⟨i, hi, e⟩ := canK_at r u (r.length - 1)
  have := hs.pos
  exact ⟨i, by omega, e⟩
theorem sf_canS {s : List Nat × List Nat} (hs : Sf s.1 s.2) : Sf (canS s.1 s.2).1 (canS s.1 s.2).2 := by
  obtain ⟨i, hi, e⟩ := canS_at hs
  rw [e]
  exact sf_rS hs hi
end Go.Proofs.Ytoijcallajegfaa.M
end
section
/- Cycles: the program and the reference answer alike. No conditions. -/
namespace Go.Proofs.Ytoijcallajegfaa.M
set_option linter.unusedVariables false
set_option linter.unusedSimpArgs false
open Go.RowKit Go.Proofs.YtoijcallajegfaaW.PrintWords Go.Proofs.YtoijcallajegfaaW.PrintLast Go.Proofs.YtoijcallajegfaaW.PrintMore Go.Proofs.Ytoijcallajegfaa.A
def I2 (l : List (List Nat)) : List (List Int) := l.map I
theorem I2_len (l : List (List Nat)) : (I2 l).length = l.length := by simp [I2]
theorem I2_snoc (l : List (List Nat)) (c : List Nat) : I2 l ++ [I c] = I2 (l ++ [c]) := by simp [I2]
theorem cyc_len (p : List Nat) (i : Nat) : (cyc p i).length ≤ i := by
  induction i with
  | zero => simp [cyc]
  | succ i ih =>
    unfold cyc
    split
    · omega
    · simp
      omega
theorem orbTo_len (p : List Nat) (s m : Nat) : (orbTo p s m).length = m := by simp [orbTo]
theorem mem_flat {l : List (List Nat)} {x : Nat} : x ∈ l.flatten ↔ ∃ c ∈ l, x ∈ c := by simp
theorem cyc_next {p : List Nat} (hp : IsP p) {i m : Nat} (hi : i < p.length) (hnew : ¬ ∃ c ∈ cyc p i, i ∈ c) (hm : m < per p i) : itr p m i ∉ (cyc p i).flatten ++ orbTo p i m := by
  intro h
  rcases List.mem_append.mp h with h | h
  · exact cyc_new hp hi hnew ((mem_orb hp hi).mpr ⟨m, rfl⟩) (mem_flat.mp h)
  · by_cases e : m = 0
    · subst e
      simp [orbTo] at h
    · exact orb_close hp hi hm (by omega) h
theorem cyc_shut {p : List Nat} (hp : IsP p) {i : Nat} (hi : i < p.length) : itr p (per p i) i ∈ (cyc p i).flatten ++ orbTo p i (per p i) := by
  rw [(per_spec hp hi).1]
  exact List.mem_append.mpr (.inr (orb_self hp hi))
theorem cyc_succ_new {p : List Nat} {i : Nat} (hnew : ¬ ∃ c ∈ cyc p i, i ∈ c) : cyc p (i + 1) = cyc p i ++ [orb p i] := by
  rw [cyc, if_neg hnew]
theorem cyc_succ_old {p : List Nat} {i : Nat} (h : ∃ c ∈ cyc p i, i ∈ c) : cyc p (i + 1) = cyc p i := by
  rw [cyc, if_pos h]
theorem marks_rep (n : Nat) : Marks n (List.replicate n false) ([] : List Nat) := by
  refine ⟨by simp, fun x hx => ?_⟩
  rw [List.getD_eq_getElem?_getD, List.getElem?_replicate]
  simp [hx]
theorem impl_cycles {p : List Nat} (hp : IsP p) (h24 : p.length ≤ 24) : Ev (fun k => impl_CyclesOf.f k (I p)) (I2 (cycles p)) := by
  unfold impl_CyclesOf.f
  refine Ev.bind (impl_permOk (I p)) ?_
  have h0 : permB (I p) = true := permB_I.mpr ⟨hp, h24⟩
  have h1 : (0 : Int) ≤ (p.length : Int) := by omega
  have h2 : p.length ≤ 281474976710656 := by omega
  simp only [h0, I_len', h1, h2, if_true, Int.toNat_natCast]
  have H : ∀ (d i : Nat) (s : List Bool), i + d = p.length → Marks p.length s (cyc p i).flatten → Ev (fun k => impl_CyclesOf.l0 k (I p) s (I2 (cyc p i)) (p.length : Int) (i : Int)) (I2 (cycles p)) := by
    intro d
    induction d with
    | zero =>
      intro i s h hm
      obtain rfl : i = p.length := by omega
      refine ev_succ ?_
      have h1 : ¬ ((p.length : Int) < (p.length : Int)) := by omega
      simp only [impl_CyclesOf.l0, h1, if_false]
      exact Ev.now _
    | succ d ih =>
      intro i s h hm
      have hi : i < p.length := by omega
      have c1 : (i : Int) < (p.length : Int) := by omega
      have c2 : (0 : Int) ≤ (i : Int) := by omega
      have c3 : (i : Int) < (s.length : Int) := by have := hm.1; omega
      have h3 := w64s i (by omega)
      refine ev_succ ?_
      by_cases hs : s.getD i false = true
      · have ho := mem_flat.mp ((hm.2 i hi).mp hs)
        simp only [impl_CyclesOf.l0, c1, c2, c3, rdOf_nat, hs, if_true, h3]
        have := ih (i + 1) s (by omega) (by rw [cyc_succ_old ho]; exact hm)
        rw [cyc_succ_old ho] at this
        exact this
      · have hnew : ¬ ∃ c ∈ cyc p i, i ∈ c := fun h => hs ((hm.2 i hi).mpr (mem_flat.mpr h))
        simp only [impl_CyclesOf.l0, c1, c2, c3, rdOf_nat, hs, if_true, if_false]
        have G : ∀ (e m : Nat) (t : List Bool), m + e = per p i → Marks p.length t ((cyc p i).flatten ++ orbTo p i m) → Ev (fun k => impl_CyclesOf.l1 k (I p) t (I2 (cyc p i)) (I (orbTo p i m)) ((itr p m i : Nat) : Int) (p.length : Int) (i : Int)) (I2 (cycles p)) := by
          intro e
          induction e with
          | zero =>
            intro m t he ht
            obtain rfl : m = per p i := by omega
            refine ev_succ ?_
            have hx := itr_lt hp (per p i) hi
            have d1 : (0 : Int) ≤ ((itr p (per p i) i : Nat) : Int) := by omega
            have d2 : ((itr p (per p i) i : Nat) : Int) < (t.length : Int) := by have := ht.1; omega
            have d3 := (ht.2 _ hx).mpr (cyc_shut hp hi)
            have d4 : (I2 (cyc p i)).length < 5864062014805 := by rw [I2_len]; have := cyc_len p i; omega
            simp only [impl_CyclesOf.l1, d1, d2, rdOf_nat, d3, d4, if_true, h3]
            have := ih (i + 1) t (by omega) (by rw [cyc_succ_new hnew]; simpa [orb] using ht)
            rw [cyc_succ_new hnew, ← I2_snoc] at this
            exact this
          | succ e ihe =>
            intro m t he ht
            refine ev_succ ?_
            have hx := itr_lt hp m hi
            have hn := cyc_next hp hi hnew (m := m) (by omega)
            have d1 : (0 : Int) ≤ ((itr p m i : Nat) : Int) := by omega
            have d2 : ((itr p m i : Nat) : Int) < (t.length : Int) := by have := ht.1; omega
            have d3 : ¬ t.getD (itr p m i) false = true := fun k => hn ((ht.2 _ hx).mp k)
            have d4 : (I (orbTo p i m)).length < 17592186044416 := by rw [I_len, orbTo_len]; have := (per_spec hp hi).2.1; omega
            have d5 : ((itr p m i : Nat) : Int) < (p.length : Int) := by omega
            simp only [impl_CyclesOf.l1, d1, d2, rdOf_nat, d3, d4, d5, I_len', if_true, if_false, rdI, Int.toNat_natCast, I_snoc, orbTo_snoc]
            have := ihe (m + 1) (t.set (itr p m i) true) (by omega) (by
              have := ht.add hx
              rw [List.append_assoc, orbTo_snoc] at this
              exact this)
            exact this
        have := G (per p i) 0 s (by omega) (by simpa [orbTo] using hm)
        exact this
  exact H p.length 0 _ (by omega) (by simpa [cyc] using marks_rep p.length)
end Go.Proofs.Ytoijcallajegfaa.M
end
section
/- Marks on lists of lists. No conditions. -/
namespace Go.Proofs.Ytoijcallajegfaa.M
set_option linter.unusedVariables false
set_option linter.unusedSimpArgs false
open Go.RowKit Go.Proofs.YtoijcallajegfaaW.PrintWords Go.Proofs.YtoijcallajegfaaW.PrintLast Go.Proofs.YtoijcallajegfaaW.PrintMore Go.Proofs.Ytoijcallajegfaa.A
def totL (xs : List (List Int)) : Nat := (xs.map List.length).sum
theorem getD_mid {α : Type} (p : List α) (x : α) (xs : List α) (d : α) : (p ++ x :: xs).getD p.length d = x := by
  rw [List.getD_eq_getElem?_getD, List.getElem?_append_right (Nat.le_refl _)]
  simp
end Go.Proofs.Ytoijcallajegfaa.M
end
section
/- Rows: the program and the reference answer alike. No conditions. -/
namespace Go.Proofs.Ytoijcallajegfaa.M
set_option linter.unusedVariables false
set_option linter.unusedSimpArgs false
open Go.RowKit Go.Proofs.YtoijcallajegfaaW.PrintWords Go.Proofs.YtoijcallajegfaaW.PrintLast Go.Proofs.YtoijcallajegfaaW.PrintMore Go.Proofs.Ytoijcallajegfaa.A
theorem cycles_len {p : List Nat} (h24 : p.length ≤ 24) : (cycles p).length ≤ 24 := Nat.le_trans (cyc_len p p.length) h24
theorem cycle_len {p : List Nat} (hp : IsP p) (h24 : p.length ≤ 24) : ∀ c ∈ cycles p, c.length ≤ 24 := by
  intro c hc
  obtain ⟨s, hs, rfl⟩ := cyc_form p p.length c hc
  unfold orb
  rw [orbTo_len]
  have := (per_spec hp hs).2.1
  omega
structure SmallSS (l : List (List Int)) : Prop where
  n : l.length ≤ 24
  m : ∀ x ∈ l, x.length ≤ 24
  t : totL l ≤ 1000
end Go.Proofs.Ytoijcallajegfaa.M
end
section
/- One round about a corner; first places in lists. No conditions. -/
namespace Go.Proofs.Ytoijcallajegfaa.M
set_option linter.unusedVariables false
set_option linter.unusedSimpArgs false
open Go.RowKit Go.Proofs.YtoijcallajegfaaW.PrintWords Go.Proofs.YtoijcallajegfaaW.PrintLast Go.Proofs.YtoijcallajegfaaW.PrintMore Go.Proofs.Ytoijcallajegfaa.A
theorem impl_then {p q : List Nat} (hp : IsP p) (hq : IsP q) (hl : p.length = q.length) (h24 : p.length ≤ 24) : Ev (fun k => impl_ThenPerm.f k (I p) (I q)) (I (thn p q)) := by
  unfold impl_ThenPerm.f
  refine Ev.bind (impl_permOk (I p)) ?_
  have e1 : permB (I p) = true := permB_I.mpr ⟨hp, h24⟩
  have e2 : permB (I q) = true := permB_I.mpr ⟨hq, by omega⟩
  simp only [e1, if_true]
  refine Ev.bind (impl_permOk (I q)) ?_
  have e3 : ((p.length : Int) != (q.length : Int)) = false := by simp [hl]
  simp only [e2, if_true, I_len', e3]
  refine ev_succ ?_
  have h1 : (0 : Int) ≤ (p.length : Int) := by omega
  have h2 : p.length ≤ 35184372088832 := by omega
  simp only [impl_ThenPerm.j0, Bool.false_eq_true, if_false, I_len', h1, h2, if_true, Int.toNat_natCast]
  have H : ∀ (d i : Nat) (c : List Nat), i + d = p.length → c.length = p.length → (∀ j, j < i → g c j = g q (g p j)) → Ev (fun k => impl_ThenPerm.l0 k (I q) (I c) (I p) (p.length : Int) (i : Int)) (I (thn p q)) := by
    intro d
    induction d with
    | zero =>
      intro i c h hc hx
      refine ev_succ ?_
      have h1 : ¬ ((i : Int) < (p.length : Int)) := by omega
      have e : thn p q = c := by
        refine (eq_tab hc (fun j hj => hx j (by omega))).symm
      simp only [impl_ThenPerm.l0, h1, if_false]
      rw [e]
      exact Ev.now _
    | succ d ih =>
      intro i c h hc hx
      refine ev_succ ?_
      have hi : i < p.length := by omega
      have gp := g_lt hp hi
      have c1 : (i : Int) < (p.length : Int) := by omega
      have c2 : (0 : Int) ≤ (i : Int) := by omega
      have c3 : (0 : Int) ≤ ((g p i : Nat) : Int) := by omega
      have c4 : ((g p i : Nat) : Int) < (q.length : Int) := by omega
      have c5 : (i : Int) < (c.length : Int) := by omega
      have h3 := w64s i (by omega)
      simp only [impl_ThenPerm.l0, c1, c2, c3, c4, c5, h3, rdI, I_len', I_set, if_true, Int.toNat_natCast]
      refine ih (i + 1) _ (by omega) (by rw [List.length_set]; exact hc) (fun j hj => ?_)
      rw [g_set (by omega)]
      by_cases e : i = j
      · subst e
        simp
      · rw [if_neg e]
        exact hx j (by omega)
  have := H p.length 0 (List.replicate p.length 0) (by omega) (by simp) (fun j hj => by omega)
  rw [I_rep] at this
  exact this
def arnd (r u : List Nat) : List Nat := thn (thn r u) (thn (inv r) (inv u))
theorem arnd_len (r u : List Nat) : (arnd r u).length = r.length := by unfold arnd; rw [thn_len, thn_len]
theorem isP_arnd {r u : List Nat} (hs : Sf r u) : IsP (arnd r u) :=
  isP_thn (isP_thn hs.pr hs.pu hs.eq.symm) (isP_thn (isP_inv hs.pr) (isP_inv hs.pu) (by rw [inv_len, inv_len, hs.eq])) (by rw [thn_len, thn_len, inv_len])
theorem impl_around {r u : List Nat} (hs : Sf r u) : Ev (fun k => impl_AroundOf.f k (I r) (I u)) (I (arnd r u)) := by
  have hle := hs.le
  have heq := hs.eq
  unfold impl_AroundOf.f
  refine Ev.bind (impl_surf _ _) ?_
  rw [surfB_I.mpr hs]
  simp only [if_true]
  refine Ev.bind (impl_then hs.pr hs.pu heq.symm hs.le) ?_
  refine Ev.bind (impl_inv hs.pr hs.le) (Ev.bind (impl_inv hs.pu (by omega)) ?_)
  refine Ev.bind (impl_then (isP_inv hs.pr) (isP_inv hs.pu) (by rw [inv_len, inv_len, heq]) (by rw [inv_len]; omega)) ?_
  refine Ev.bind (impl_then (isP_thn hs.pr hs.pu heq.symm) (isP_thn (isP_inv hs.pr) (isP_inv hs.pu) (by rw [inv_len, inv_len, heq])) (by rw [thn_len, thn_len, inv_len]) (by rw [thn_len]; omega)) ?_
  exact Ev.now _
theorem rdL_mid (a : List (List Nat)) (c : List Nat) (b : List (List Nat)) : rd_L5 (I2 (a ++ c :: b)) (a.length : Int) = I c := by
  unfold rd_L5 I2
  rw [Int.toNat_natCast, List.map_append, List.map_cons, ← List.length_map (f := I)]
  exact getD_mid _ _ _ _
theorem rdL_I2 (l : List (List Nat)) (i : Nat) (h : i < l.length) : rd_L5 (I2 l) (i : Int) = I (l[i]) := by
  unfold rd_L5 I2
  rw [Int.toNat_natCast, List.getD_eq_getElem?_getD, List.getElem?_map, List.getElem?_eq_getElem h]
  rfl
end Go.Proofs.Ytoijcallajegfaa.M
end
section
/- Slopes and paths: the program and the reference answer alike. No conditions. -/
namespace Go.Proofs.Ytoijcallajegfaa.M
set_option linter.unusedVariables false
set_option linter.unusedSimpArgs false
open Go.RowKit Go.Proofs.YtoijcallajegfaaW.PrintWords Go.Proofs.YtoijcallajegfaaW.PrintLast Go.Proofs.YtoijcallajegfaaW.PrintMore Go.Proofs.Ytoijcallajegfaa.A
def wk (r u : List Nat) (w : ByteArray) : Nat → Nat → Nat
  | 0, x => x
  | j + 1, x => if bt w (j : Int) = 114 then g r (wk r u w j x) else g u (wk r u w j x)
end Go.Proofs.Ytoijcallajegfaa.M
end
section
/- Words of letters: the program and the reference act alike. No conditions. -/
namespace Go.Proofs.Ytoijcallajegfaa.M
set_option linter.unusedVariables false
set_option linter.unusedSimpArgs false
open Go.RowKit Go.Proofs.YtoijcallajegfaaW.PrintWords Go.Proofs.YtoijcallajegfaaW.PrintLast Go.Proofs.YtoijcallajegfaaW.PrintMore Go.Proofs.Ytoijcallajegfaa.A
def lt (c : Int) (s : List Nat × List Nat) : List Nat × List Nat := if c = 84 then (s.1, thn (inv s.1) s.2) else if c = 116 then (s.1, thn s.1 s.2) else if c = 83 then (inv s.2, s.1) else (s.2, inv s.1)
theorem sf_lt {s : List Nat × List Nat} (hs : Sf s.1 s.2) (c : Int) : Sf (lt c s).1 (lt c s).2 ∧ (lt c s).1.length = s.1.length := by
  unfold lt
  split
  · exact ⟨sf_T hs, rfl⟩
  · split
    · exact ⟨sf_t hs, rfl⟩
    · split
      · exact ⟨sf_S hs, by show (inv s.2).length = _; rw [inv_len, hs.eq]⟩
      · exact ⟨sf_s hs, hs.eq⟩
def rn (w : ByteArray) (s : List Nat × List Nat) : Nat → List Nat × List Nat
  | 0 => s
  | j + 1 => lt (bt w (j : Int)) (rn w s j)
def letB (c : Int) : Bool := decide (c = 84 ∨ c = 116 ∨ c = 83 ∨ c = 115)
def wordB (w : ByteArray) : Bool := decide ((∀ j, j < w.size → letB (bt w (j : Int)) = true) ∧ w.size ≤ 40)
theorem copy_ev (l : List Int) (h : l.length ≤ 1000000) : impl_copyInts.f l = some l := by
  unfold impl_copyInts.f
  have c1 : ([] : List Int).length + l.length < 17592186044416 := by simp; omega
  simp only [Option.bind_some, c1, if_true, List.nil_append]
theorem impl_letter {s : List Nat × List Nat} (hs : Sf s.1 s.2) (c : Int) (hc : letB c = true) : Ev (fun k => impl_letterSurface.f k (I s.1) (I s.2) c) (I (lt c s).1, I (lt c s).2) := by
  have hle := hs.le
  have heq := hs.eq
  have h0 := surfB_I.mpr hs
  have k1 := copy_ev (I s.1) (by rw [I_len]; omega)
  have k2 := copy_ev (I s.2) (by rw [I_len]; omega)
  have hc := of_decide_eq_true hc
  unfold impl_letterSurface.f lt
  by_cases h1 : c = 84
  · simp only [h1, if_true]
    refine Ev.bind (a := (I s.1, I (thn (inv s.1) s.2), true)) ?_ (Ev.now _)
    unfold impl_ShearSurface.f
    refine Ev.bind (impl_surf _ _) ?_
    simp only [h0, k1, if_true, Option.bind_some]
    exact Ev.bind (impl_inv hs.pr hs.le) (Ev.bind (impl_then (isP_inv hs.pr) hs.pu (by rw [inv_len, hs.eq]) (by rw [inv_len]; exact hs.le)) (Ev.now _))
  · by_cases h2 : c = 116
    · have n1 : ¬ ((116 : Int) = 84) := by omega
      simp only [h2, n1, if_true, if_false]
      refine Ev.bind (a := (I s.1, I (thn s.1 s.2), true)) ?_ (Ev.now _)
      unfold impl_UnshearSurface.f
      refine Ev.bind (impl_surf _ _) ?_
      simp only [h0, k1, if_true, Option.bind_some]
      exact Ev.bind (impl_then hs.pr hs.pu hs.eq.symm hs.le) (Ev.now _)
    · by_cases h3 : c = 83
      · have n1 : ¬ ((83 : Int) = 84) := by omega
        have n2 : ¬ ((83 : Int) = 116) := by omega
        simp only [h3, n1, n2, if_true, if_false]
        refine Ev.bind (a := (I (inv s.2), I s.1, true)) ?_ (Ev.now _)
        unfold impl_TurnSurface.f
        refine Ev.bind (impl_surf _ _) ?_
        simp only [h0, if_true]
        refine Ev.bind (impl_inv hs.pu (by omega)) ?_
        simp only [k1, Option.bind_some]
        exact Ev.now _
      · have h4 : c = 115 := by omega
        have n1 : ¬ ((115 : Int) = 84) := by omega
        have n2 : ¬ ((115 : Int) = 116) := by omega
        have n3 : ¬ ((115 : Int) = 83) := by omega
        simp only [h4, n1, n2, n3, if_true, if_false]
        refine Ev.bind (a := (I s.2, I (inv s.1), true)) ?_ (Ev.now _)
        unfold impl_UnturnSurface.f
        refine Ev.bind (impl_surf _ _) ?_
        simp only [h0, k2, if_true, Option.bind_some]
        exact Ev.bind (impl_inv hs.pr hs.le) (Ev.now _)
end Go.Proofs.Ytoijcallajegfaa.M
end
section
/- Surfaces that are alike; surfaces that a word keeps. No conditions. -/
namespace Go.Proofs.Ytoijcallajegfaa.M
set_option linter.unusedVariables false
set_option linter.unusedSimpArgs false
open Go.RowKit Go.Proofs.YtoijcallajegfaaW.PrintWords Go.Proofs.YtoijcallajegfaaW.PrintLast Go.Proofs.YtoijcallajegfaaW.PrintMore Go.Proofs.Ytoijcallajegfaa.A
theorem impl_same (a b : List Nat × List Nat) (h1 : a.1.length ≤ 1000000) (h2 : a.2.length ≤ 1000000) : Ev (fun k => impl_SameSurface.f k (I a.1) (I a.2) (I b.1) (I b.2)) (decide (a = b)) := by
  unfold impl_SameSurface.f
  refine Ev.bind (equal_ev a.1 b.1 (by omega)) ?_
  by_cases h : a.1 = b.1
  · have e : decide (a = b) = decide (a.2 = b.2) := by
      rw [decide_eq_decide, Prod.ext_iff]
      simp [h]
    rw [e]
    simp only [h, decide_true, if_true]
    exact Ev.bind (equal_ev a.2 b.2 (by omega)) (Ev.now _)
  · have e : decide (a = b) = false := by
      rw [decide_eq_false_iff_not]
      intro e
      exact h (by rw [e])
    rw [e]
    simp only [h, decide_false, Bool.false_eq_true, if_false]
    exact Ev.now _
end Go.Proofs.Ytoijcallajegfaa.M
end
section
/- The orbit in plain words: the program and the reference run alike. No conditions. -/
namespace Go.Proofs.Ytoijcallajegfaa.M
set_option linter.unusedVariables false
set_option linter.unusedSimpArgs false
open Go.RowKit Go.Proofs.YtoijcallajegfaaW.PrintWords Go.Proofs.YtoijcallajegfaaW.PrintLast Go.Proofs.YtoijcallajegfaaW.PrintMore Go.Proofs.Ytoijcallajegfaa.A
def oS (p : List Nat × List Nat) : S33 := ⟨I p.1, I p.2⟩
def nxt (c : Int) (s : List Nat × List Nat) : List Nat × List Nat := canS (lt c s).1 (lt c s).2
theorem sf_nxt {s : List Nat × List Nat} (hs : Sf s.1 s.2) (c : Int) : Sf (nxt c s).1 (nxt c s).2 := sf_canS (s := lt c s) (sf_lt hs c).1
structure PO where
  L : List (List Nat × List Nat)
  W : List ByteArray
  F : List Int
  B : List Int
  T : List Int
  S : List Int
def PO.orb (s : PO) : Orb := ⟨s.L.map oS, s.W, s.F, s.B, s.T, s.S⟩
def fi (L : List (List Nat × List Nat)) (x : List Nat × List Nat) : Int := if x ∈ L then ((L.idxOf x : Nat) : Int) else -1
def atL (L : List (List Nat × List Nat)) (i : Nat) : List Nat × List Nat := L.getD i ([], [])
def atW (W : List ByteArray) (i : Nat) : ByteArray := rdOf ByteArray.empty W (i : Int)
def stepP (i : Nat) (c : Int) (s : PO) : Option PO :=
  if nxt c (atL s.L i) ∈ s.L then some { s with T := if c = 84 then s.T ++ [((s.L.idxOf (nxt c (atL s.L i)) : Nat) : Int)] else s.T, S := if c = 84 then s.S else s.S ++ [((s.L.idxOf (nxt c (atL s.L i)) : Nat) : Int)] }
  else if s.L.length = 120 then none
  else some ⟨s.L ++ [nxt c (atL s.L i)], s.W ++ [atW s.W i ++ strOfNums [c]], s.F ++ [(i : Int)], s.B ++ [c], if c = 84 then s.T ++ [(s.L.length : Int)] else s.T, if c = 84 then s.S else s.S ++ [(s.L.length : Int)]⟩
def roundP (i : Nat) (s : PO) : Option PO := (stepP i 84 s).bind (stepP i 83)
def lpP : Nat → PO → Nat → Option PO
  | 0, s, _ => some s
  | f + 1, s, i => if i < s.L.length then (roundP i s).bind (fun s' => lpP f s' (i + 1)) else some s
structure Good (s : PO) : Prop where
  sf : ∀ x ∈ s.L, Sf x.1 x.2
  lw : s.W.length = s.L.length
  lf : s.F.length = s.L.length
  lb : s.B.length = s.L.length
  ws : ∀ j, j < s.L.length → (atW s.W j).size ≤ j
  lt : s.T.length ≤ 200
  ls : s.S.length ≤ 200
theorem atL_get {L : List (List Nat × List Nat)} {i : Nat} (h : i < L.length) : atL L i = L[i] := by simp [atL, List.getD_eq_getElem?_getD, h]
theorem atL_mem {L : List (List Nat × List Nat)} {i : Nat} (h : i < L.length) : atL L i ∈ L := by rw [atL_get h]; exact List.getElem_mem h
theorem rd_oS {L : List (List Nat × List Nat)} {i : Nat} (h : i < L.length) : rd_T33 (L.map oS) (i : Int) = oS (atL L i) := by
  unfold rd_T33
  rw [atL_get h]
  simp [List.getD_eq_getElem?_getD, h]
theorem str1 (c : Int) : (strOfNums [c]).size = 1 := by simp [strOfNums, ByteArray.size]
theorem oidx_ev {L : List (List Nat × List Nat)} (hL : ∀ x ∈ L, Sf x.1 x.2) (hl : L.length ≤ 1000) (x : List Nat × List Nat) : Ev (fun k => indexO k (L.map oS) (I x.1) (I x.2)) (fi L x) := by
  unfold indexO
  have c1 : (L.map oS).length < 4611686018427387904 := by rw [List.length_map]; omega
  simp only [c1, if_true]
  have H : ∀ (M : List (List Nat × List Nat)) (i : Nat), (∀ x ∈ M, Sf x.1 x.2) → Ev (fun k => idxS k (I x.1) (I x.2) (M.map oS) i) (if x ∈ M then ((i + M.idxOf x : Nat) : Int) else -1) := by
    intro M
    induction M with
    | nil => intro i _; exact Ev.now _
    | cons y M ih =>
      intro i hM
      have hy := hM y (by simp)
      have ly := hy.le
      have ly2 := hy.eq
      rw [List.map_cons]
      simp only [idxS]
      refine Ev.bind (impl_same y x (by omega) (by omega)) ?_
      by_cases e : y = x
      · subst e
        simp only [decide_true, if_true, List.mem_cons, true_or, List.idxOf_cons_self, Nat.add_zero]
        exact Ev.now _
      · have hb : (y == x) = false := beq_eq_false_iff_ne.mpr e
        simp only [e, decide_false, Bool.false_eq_true, if_false]
        have key := ih (i + 1) (fun z hz => hM z (by simp [hz]))
        have e1 : (if x ∈ y :: M then ((i + (y :: M).idxOf x : Nat) : Int) else -1) = (if x ∈ M then ((i + 1 + M.idxOf x : Nat) : Int) else -1) := by
          have e2 : x ∈ y :: M ↔ x ∈ M := by simp [Ne.symm e]
          rw [List.idxOf_cons, hb]
          by_cases hm : x ∈ M
          · rw [if_pos (e2.mpr hm), if_pos hm]
            simp only [cond_false]
            congr 1
            omega
          · rw [if_neg (fun h => hm (e2.mp h)), if_neg hm]
        rw [e1]
        exact key
  have key := H L 0 hL
  unfold fi
  simp only [Nat.zero_add] at key
  exact key
theorem fi_neg {L : List (List Nat × List Nat)} {x : List Nat × List Nat} : fi L x < 0 ↔ x ∉ L := by
  unfold fi
  by_cases h : x ∈ L
  · rw [if_pos h]; constructor
    · intro h2; omega
    · intro h2; exact absurd h h2
  · rw [if_neg h]; simp [h]
theorem let_ok {c : Int} (hc : c = 84 ∨ c = 83) : letB c = true := by
  rcases hc with rfl | rfl <;> rfl
theorem stpO_ev {s : PO} (hg : Good s) {i : Nat} (hi : i < s.L.length) (hl : s.L.length ≤ 120) {c : Int} (hc : c = 84 ∨ c = 83) : Ev (fun k => stpO k (i : Int) c s.orb) ((stepP i c s).map PO.orb) := by
  have hs := hg.sf _ (atL_mem hi)
  have h1 := impl_letter hs c (let_ok hc)
  have h2 := impl_canon (sf_lt hs c).1
  have h3 := oidx_ev hg.sf (by omega) (nxt c (atL s.L i))
  have c1 : (0 : Int) ≤ (i : Int) := by omega
  have c2 : (i : Int) < (s.orb.L.length : Int) := by show (i : Int) < ((s.L.map oS).length : Int); rw [List.length_map]; omega
  unfold stpO
  simp only [c1, c2, if_true]
  have e1 : rd_T33 s.orb.L (i : Int) = oS (atL s.L i) := rd_oS hi
  rw [e1]
  refine Ev.bind h1 (Ev.bind h2 (Ev.bind h3 ?_))
  have el : s.orb.L.length = s.L.length := List.length_map _
  have lw := hg.lw
  have lf := hg.lf
  have lb := hg.lb
  have lt' := hg.lt
  have ls := hg.ls
  by_cases hm : nxt c (atL s.L i) ∈ s.L
  · have hn : ¬ fi s.L (nxt c (atL s.L i)) < 0 := fun h => fi_neg.mp h hm
    have e2 : fi s.L (nxt c (atL s.L i)) = ((s.L.idxOf (nxt c (atL s.L i)) : Nat) : Int) := if_pos hm
    have c5 : s.orb.T.length < 1000000 ∧ s.orb.S.length < 1000000 := ⟨by show s.T.length < _; omega, by show s.S.length < _; omega⟩
    have e3 : stepP i c s = some { s with T := if c = 84 then s.T ++ [((s.L.idxOf (nxt c (atL s.L i)) : Nat) : Int)] else s.T, S := if c = 84 then s.S else s.S ++ [((s.L.idxOf (nxt c (atL s.L i)) : Nat) : Int)] } := if_pos hm
    rw [e3, e2]
    rw [e2] at hn
    rw [if_neg hn, if_pos c5]
    exact Ev.now _
  · have hn : fi s.L (nxt c (atL s.L i)) < 0 := fi_neg.mpr hm
    simp only [hn, if_true]
    by_cases h120 : s.L.length = 120
    · have e3 : stepP i c s = none := by unfold stepP; rw [if_neg hm, if_pos h120]
      have c6 : (s.orb.L.length : Int) = 120 := by rw [el]; omega
      rw [e3, if_pos c6]
      exact Ev.now _
    · have c6 : ¬ (s.orb.L.length : Int) = 120 := by rw [el]; omega
      have c7 : s.orb.L.length < 1000000 ∧ s.orb.W.length < 1000000 ∧ s.orb.F.length < 1000000 ∧ s.orb.B.length < 1000000 ∧ s.orb.T.length < 1000000 ∧ s.orb.S.length < 1000000 := ⟨by rw [el]; omega, by show s.W.length < _; omega, by show s.F.length < _; omega, by show s.B.length < _; omega, by show s.T.length < _; omega, by show s.S.length < _; omega⟩
      have c8 : (i : Int) < (s.orb.W.length : Int) := by show (i : Int) < (s.W.length : Int); omega
      have c9 : (rdOf ByteArray.empty s.orb.W (i : Int)).size + 1 ≤ 9223372036854775807 := by have := hg.ws i hi; show (atW s.W i).size + 1 ≤ _; omega
      have e3 : stepP i c s = some ⟨s.L ++ [nxt c (atL s.L i)], s.W ++ [atW s.W i ++ strOfNums [c]], s.F ++ [(i : Int)], s.B ++ [c], if c = 84 then s.T ++ [(s.L.length : Int)] else s.T, if c = 84 then s.S else s.S ++ [(s.L.length : Int)]⟩ := by unfold stepP; rw [if_neg hm, if_neg h120]
      rw [e3, if_neg c6, if_pos c7, if_pos c8, if_pos c9]
      have e4 : s.orb.L ++ [(⟨I (canS (lt c (atL s.L i)).1 (lt c (atL s.L i)).2).1, I (canS (lt c (atL s.L i)).1 (lt c (atL s.L i)).2).2⟩ : S33)] = (s.L ++ [nxt c (atL s.L i)]).map oS := by rw [List.map_append]; rfl
      refine Ev.of (k := 0) (fun k => LeO.refl _) ?_
      show some (some (Orb.mk _ _ _ _ _ _)) = some (some (Orb.mk _ _ _ _ _ _))
      rw [e4, el]
      rfl
theorem atW_app {W : List ByteArray} {j : Nat} (h : j < W.length) (x : ByteArray) : atW (W ++ [x]) j = atW W j := by
  unfold atW rdOf
  rw [Int.toNat_natCast, List.getD_eq_getElem?_getD, List.getD_eq_getElem?_getD, List.getElem?_append_left h]
theorem atW_last (W : List ByteArray) (x : ByteArray) : atW (W ++ [x]) W.length = x := by
  unfold atW rdOf
  rw [Int.toNat_natCast, List.getD_eq_getElem?_getD, List.getElem?_append_right (Nat.le_refl _)]
  simp
theorem step_good {s s' : PO} (hg : Good s) {i : Nat} (hi : i < s.L.length) {c : Int} (hT : s.T.length < 200) (hS : s.S.length < 200) (h : stepP i c s = some s') : Good s' ∧ i < s'.L.length ∧ s'.T.length ≤ s.T.length + 1 ∧ s'.S.length ≤ s.S.length + 1 ∧ (s.L.length ≤ 120 → s'.L.length ≤ 120) := by
  have hs := hg.sf _ (atL_mem hi)
  unfold stepP at h
  by_cases hm : nxt c (atL s.L i) ∈ s.L
  · rw [if_pos hm] at h
    have h := Option.some.inj h
    subst h
    have q1 : (if c = 84 then s.T ++ [((s.L.idxOf (nxt c (atL s.L i)) : Nat) : Int)] else s.T).length ≤ s.T.length + 1 := by split <;> simp
    have q2 : (if c = 84 then s.S else s.S ++ [((s.L.idxOf (nxt c (atL s.L i)) : Nat) : Int)]).length ≤ s.S.length + 1 := by split <;> simp
    exact ⟨⟨hg.sf, hg.lw, hg.lf, hg.lb, hg.ws, by show (if c = 84 then _ else _ : List Int).length ≤ 200; omega, by show (if c = 84 then _ else _ : List Int).length ≤ 200; omega⟩, hi, q1, q2, fun h => h⟩
  · rw [if_neg hm] at h
    by_cases h120 : s.L.length = 120
    · rw [if_pos h120] at h; cases h
    · rw [if_neg h120] at h
      have h := Option.some.inj h
      subst h
      have q1 : (if c = 84 then s.T ++ [(s.L.length : Int)] else s.T).length ≤ s.T.length + 1 := by split <;> simp
      have q2 : (if c = 84 then s.S else s.S ++ [(s.L.length : Int)]).length ≤ s.S.length + 1 := by split <;> simp
      refine ⟨⟨fun x hx => ?_, by simp [hg.lw], by simp [hg.lf], by simp [hg.lb], fun j hj => ?_, by show (if c = 84 then _ else _ : List Int).length ≤ 200; omega, by show (if c = 84 then _ else _ : List Int).length ≤ 200; omega⟩, by simp; omega, q1, q2, fun h => by simp; omega⟩
      · rcases List.mem_append.mp hx with hx | hx
        · exact hg.sf x hx
        · obtain rfl : x = nxt c (atL s.L i) := by simpa using hx
          exact sf_nxt hs c
      · have hj : j < s.L.length + 1 := by simpa using hj
        show (atW (s.W ++ [atW s.W i ++ strOfNums [c]]) j).size ≤ j
        by_cases e : j = s.L.length
        · rw [e, ← hg.lw, atW_last, ByteArray.size_append, str1, hg.lw]
          have := hg.ws i hi
          omega
        · rw [atW_app (by rw [hg.lw]; omega)]
          exact hg.ws j (by omega)
structure GoodU (L : List (List Nat × List Nat)) (W : List ByteArray) : Prop where
  sf : ∀ x ∈ L, Sf x.1 x.2
  lw : W.length = L.length
  ws : ∀ j, j < L.length → (atW W j).size ≤ j
theorem Good.u {s : PO} (h : Good s) : GoodU s.L s.W := ⟨h.sf, h.lw, h.ws⟩
def start0 (a : List Nat × List Nat) : PO := ⟨[canS a.1 a.2], [⟨#[]⟩], [-1], [0], [], []⟩
def orbP (a : List Nat × List Nat) : Option PO := lpP 121 (start0 a) 0
theorem start_good {a : List Nat × List Nat} (ha : Sf a.1 a.2) : Good (start0 a) :=
  ⟨fun x hx => by obtain rfl : x = canS a.1 a.2 := (by simpa [start0] using hx); exact sf_canS ha, rfl, rfl, rfl, fun j hj => by
    have hj : j < 1 := hj
    obtain rfl : j = 0 := by omega
    exact Nat.le_refl _, by simp [start0], by simp [start0]⟩
theorem orb_run : ∀ (f i : Nat) (s : PO), 121 ≤ f + i → Good s → i ≤ s.L.length → s.L.length ≤ 120 → s.T.length ≤ i → s.S.length ≤ i → Ev (fun k => loopO k s.orb (i : Int)) ((lpP f s i).map PO.orb) := by
  intro f
  induction f with
  | zero => intro i s h1 h2 h3 h4; omega
  | succ f ih =>
    intro i s hf hg hi0 hl hT hS
    have el : s.orb.L.length = s.L.length := List.length_map _
    by_cases hi : i < s.L.length
    · have c1 : (i : Int) < (s.orb.L.length : Int) := by rw [el]; omega
      have e1 := stpO_ev hg hi hl (c := 84) (.inl rfl)
      have eL : lpP (f + 1) s i = (roundP i s).bind (fun s' => lpP f s' (i + 1)) := by rw [lpP, if_pos hi]
      have impl0 : ∀ r : Option Orb, Ev (fun k => innerO k (i : Int) [84, 83] s.orb) r → Ev (fun k => match r with | none => some none | some s' => loopO k s' (wrap64 ((i : Int) + 1))) ((lpP (f + 1) s i).map PO.orb) → Ev (fun k => loopO k s.orb (i : Int)) ((lpP (f + 1) s i).map PO.orb) := by
        intro r h1 h2
        refine ev_succ ?_
        simp only [loopO, c1, if_true]
        exact Ev.bind h1 h2
      cases h84 : stepP i 84 s with
      | none =>
        have en : lpP (f + 1) s i = none := by rw [eL]; unfold roundP; rw [h84]; rfl
        rw [h84] at e1
        rw [en] at impl0 ⊢
        refine impl0 none ?_ (Ev.now _)
        unfold innerO
        exact Ev.bind e1 (Ev.now _)
      | some s1 =>
        obtain ⟨g1, i1, t1, ss1, l1⟩ := step_good hg hi (by omega) (by omega) h84
        have e2 := stpO_ev g1 i1 (l1 hl) (c := 83) (.inr rfl)
        rw [h84] at e1
        have eR : lpP (f + 1) s i = (stepP i 83 s1).bind (fun s' => lpP f s' (i + 1)) := by rw [eL]; unfold roundP; rw [h84]; rfl
        cases h83 : stepP i 83 s1 with
        | none =>
          have en : lpP (f + 1) s i = none := by rw [eR, h83]; rfl
          rw [h83] at e2
          rw [en] at impl0 ⊢
          refine impl0 none ?_ (Ev.now _)
          unfold innerO
          refine Ev.bind e1 ?_
          simp only [innerO]
          exact Ev.bind e2 (Ev.now _)
        | some s2 =>
          obtain ⟨g2, i2, t2, ss2, l2⟩ := step_good g1 i1 (by omega) (by omega) h83
          rw [h83] at e2
          have es : lpP (f + 1) s i = lpP f s2 (i + 1) := by rw [eR, h83]; rfl
          have hT2 : s2.T.length ≤ i + 1 ∧ s2.S.length ≤ i + 1 := by
            have a1 : s1.S.length = s.S.length := by
              unfold stepP at h84
              split at h84
              · have h := Option.some.inj h84; subst h; rfl
              · split at h84
                · cases h84
                · have h := Option.some.inj h84; subst h; rfl
            have a2 : s2.T.length = s1.T.length := by
              unfold stepP at h83
              split at h83
              · have h := Option.some.inj h83; subst h; rfl
              · split at h83
                · cases h83
                · have h := Option.some.inj h83; subst h; rfl
            omega
          have k1 := ih (i + 1) s2 (by omega) g2 (by omega) (l2 (l1 hl)) hT2.1 hT2.2
          have c3 := w64s i (by omega)
          rw [es] at impl0 ⊢
          refine impl0 (some s2.orb) ?_ ?_
          · unfold innerO
            refine Ev.bind e1 ?_
            simp only [innerO]
            refine Ev.bind e2 (Ev.now _)
          · simp only [c3]
            exact k1
    · have c1 : ¬ (i : Int) < (s.orb.L.length : Int) := by rw [el]; omega
      have eL : lpP (f + 1) s i = some s := by rw [lpP, if_neg hi]
      rw [eL]
      refine ev_succ ?_
      simp only [loopO, c1, if_false]
      exact Ev.now _
theorem orb_impl {a : List Nat × List Nat} (ha : Sf a.1 a.2) : Ev (fun k => orbitO k (I a.1) (I a.2)) ((orbP a).map PO.orb) := by
  unfold orbitO
  refine Ev.bind (impl_canon ha) ?_
  simp only [if_true]
  exact orb_run 121 0 (start0 a) (by omega) (start_good ha) (Nat.zero_le _) (by simp [start0]) (by simp [start0]) (by simp [start0])
theorem orbO_no {r u : List Int} (h : ¬ surfB r u = true) : Ev (fun k => orbitO k r u) none := by
  unfold orbitO
  refine Ev.bind (impl_canon_no h) ?_
  simp only [Bool.false_eq_true, if_false]
  exact Ev.now _
end Go.Proofs.Ytoijcallajegfaa.M
end
section
/- The orbit's size: the program and the reference agree. No conditions. -/
namespace Go.Proofs.Ytoijcallajegfaa.M
set_option linter.unusedSimpArgs false
open Go.RowKit Go.Proofs.YtoijcallajegfaaW.PrintWords Go.Proofs.YtoijcallajegfaaW.PrintLast Go.Proofs.YtoijcallajegfaaW.PrintMore Go.Proofs.Ytoijcallajegfaa.A
def orbR (r u : List Int) : Option PO := if surfB r u = true then orbP (N r, N u) else none
theorem N_I' (l : List Nat) : N (I l) = l := N_I l
theorem orbR_I {a : List Nat × List Nat} (ha : Sf a.1 a.2) : orbR (I a.1) (I a.2) = orbP a := by
  unfold orbR
  rw [if_pos (surfB_I.mpr ha), N_I', N_I']
theorem orbR_ev (r u : List Int) : Ev (fun k => orbitO k r u) ((orbR r u).map PO.orb) := by
  by_cases h : surfB r u = true
  · obtain ⟨r', u', rfl, rfl, hs⟩ := surf_nat h
    rw [orbR_I (a := (r', u')) hs]
    exact orb_impl (a := (r', u')) hs
  · have e : orbR r u = none := if_neg h
    rw [e]
    exact orbO_no h
def outL : Option PO → List S33 × Bool
  | none => ([], false)
  | some s => (s.L.map oS, true)
def idxR : Option PO → Int
  | none => -1
  | some s => (s.L.length : Int)
theorem implIdx_ev (r u : List Int) : Ev (fun k => impl_IndexOf.f k r u) (idxR (orbR r u)) := by
  unfold impl_IndexOf.f
  refine Ev.bind (orbR_ev r u) ?_
  cases orbR r u with
  | none => exact Ev.now _
  | some s =>
    have e : s.orb.L.length = s.L.length := List.length_map _
    simp only [Option.map_some, e]
    exact Ev.now _
end Go.Proofs.Ytoijcallajegfaa.M
end
section
/- Lists of surfaces sorted, each once: put in one by one, or all at the end. No conditions. -/
namespace Go.Proofs.Ytoijcallajegfaa.M
set_option linter.unusedVariables false
set_option linter.unusedSimpArgs false
open Go.RowKit Go.Proofs.YtoijcallajegfaaW.PrintWords Go.Proofs.YtoijcallajegfaaW.PrintLast Go.Proofs.YtoijcallajegfaaW.PrintMore Go.Proofs.Ytoijcallajegfaa.A
def Up (l : List (List Nat × List Nat)) : Prop := l.Pairwise (fun a b => cmpS a b < 0)
theorem Up.nodup {l : List (List Nat × List Nat)} (h : Up l) : l.Nodup :=
  h.imp (fun {a b} hab e => by subst e; rw [(cmpS_eq _ _).2 rfl] at hab; omega)
theorem up_uniq {l l' : List (List Nat × List Nat)} (h : Up l) (h' : Up l') (hm : ∀ x, x ∈ l ↔ x ∈ l') : l = l' := by
  refine List.Perm.eq_of_pairwise (le := fun a b => cmpS a b < 0) ?_ h h' ((List.perm_ext_iff_of_nodup h.nodup h'.nodup).2 hm)
  intro a b _ _ h1 h2
  have := cmpS_neg a b
  omega
def insS (l : List (List Nat × List Nat)) (s : List Nat × List Nat) : List (List Nat × List Nat) :=
  match l with
  | [] => [s]
  | x :: xs => if x = s then x :: xs else if cmpS s x < 0 then s :: x :: xs else x :: insS xs s
theorem mem_insS {l : List (List Nat × List Nat)} {s y : List Nat × List Nat} : y ∈ insS l s ↔ y = s ∨ y ∈ l := by
  induction l with
  | nil => simp [insS]
  | cons x xs ih =>
    unfold insS
    split
    · rename_i e; subst e; simp
    · split
      · simp
      · simp only [List.mem_cons, ih]
        constructor
        · rintro (h | h | h)
          · exact .inr (.inl h)
          · exact .inl h
          · exact .inr (.inr h)
        · rintro (h | h | h)
          · exact .inr (.inl h)
          · exact .inl h
          · exact .inr (.inr h)
theorem up_insS {l : List (List Nat × List Nat)} (s : List Nat × List Nat) (h : Up l) : Up (insS l s) := by
  induction l with
  | nil => exact List.pairwise_singleton _ _
  | cons x xs ih =>
    obtain ⟨h1, h2⟩ := List.pairwise_cons.1 h
    unfold insS
    split
    · exact h
    · rename_i hne
      split
      · rename_i hlt
        refine List.pairwise_cons.2 ⟨?_, h⟩
        intro y hy
        rcases List.mem_cons.1 hy with rfl | hy
        · exact hlt
        · exact cmpS_tr _ _ _ hlt (h1 y hy)
      · rename_i hnl
        refine List.pairwise_cons.2 ⟨?_, ih h2⟩
        intro y hy
        rcases mem_insS.1 hy with rfl | hy
        · have e := cmpS_neg x y
          have : cmpS x y ≠ 0 := fun h0 => hne ((cmpS_eq _ _).1 h0)
          omega
        · exact h1 y hy
def insAll (l : List (List Nat × List Nat)) (ss : List (List Nat × List Nat)) : List (List Nat × List Nat) := ss.foldl insS l
theorem up_insAll : ∀ (ss l : List (List Nat × List Nat)), Up l → Up (insAll l ss)
  | [], _, h => h
  | s :: ss, l, h => up_insAll ss (insS l s) (up_insS s h)
theorem mem_insAll : ∀ (ss l : List (List Nat × List Nat)) (y : List Nat × List Nat), y ∈ insAll l ss ↔ y ∈ l ∨ y ∈ ss
  | [], l, y => by simp [insAll]
  | s :: ss, l, y => by
    have := mem_insAll ss (insS l s) y
    rw [mem_insS] at this
    show y ∈ insAll (insS l s) ss ↔ _
    rw [this, List.mem_cons]
    constructor
    · rintro ((h | h) | h)
      · exact .inr (.inl h)
      · exact .inl h
      · exact .inr (.inr h)
    · rintro (h | h | h)
      · exact .inl (.inr h)
      · exact .inl (.inl h)
      · exact .inr h
theorem mem_cptGo : ∀ (p : List Nat × List Nat) (l : List (List Nat × List Nat)) (y : List Nat × List Nat), y ∈ p :: cptGo (fun a b => decide (a = b)) p l ↔ y ∈ p :: l
  | p, [], y => by simp [cptGo]
  | p, x :: l, y => by
    have := mem_cptGo x l y
    unfold cptGo
    by_cases e : x = p
    · subst e
      simp only [decide_true, if_true]
      rw [this]
      simp
    · simp only [e, decide_false, Bool.false_eq_true, if_false]
      rw [List.mem_cons, this, List.mem_cons (l := x :: l)]
theorem up_cptGo : ∀ (p : List Nat × List Nat) (l : List (List Nat × List Nat)), (p :: l).Pairwise (fun a b => ¬ cmpS b a < 0) → Up (p :: cptGo (fun a b => decide (a = b)) p l)
  | p, [], _ => List.pairwise_singleton _ _
  | p, x :: l, h => by
    obtain ⟨h1, h2⟩ := List.pairwise_cons.1 h
    have := up_cptGo x l h2
    unfold cptGo
    by_cases e : x = p
    · subst e
      simp only [decide_true, if_true]
      exact this
    · simp only [e, decide_false, Bool.false_eq_true, if_false]
      refine List.pairwise_cons.2 ⟨?_, this⟩
      intro y hy
      rw [mem_cptGo] at hy
      have hpx : cmpS p x < 0 := by
        have a := h1 x (by simp)
        have b := cmpS_neg p x
        have c : cmpS p x ≠ 0 := fun h0 => e ((cmpS_eq _ _).1 h0).symm
        omega
      rcases List.mem_cons.1 hy with rfl | hy
      · exact hpx
      · have hxy := (List.pairwise_cons.1 h2).1 y hy
        by_cases e0 : cmpS x y = 0
        · rw [← (cmpS_eq _ _).1 e0]; exact hpx
        · have := cmpS_neg x y
          exact cmpS_tr _ _ _ hpx (by omega)
theorem sortS_ins (l : List (List Nat × List Nat)) : sortS l = insAll [] l := by
  have hp := List.mergeSort_perm l (fun a b => decide (¬ cmpS b a < 0))
  have hs : (l.mergeSort (fun a b => decide (¬ cmpS b a < 0))).Pairwise (fun a b => ¬ cmpS b a < 0) := by
    have := List.pairwise_mergeSort (le := fun a b => decide (¬ cmpS b a < 0)) (fun a b c h1 h2 => decide_eq_true (cmpS_le_tr c b a (of_decide_eq_true h2) (of_decide_eq_true h1))) (fun a b => by
      have := cmpS_neg a b
      simp only [Bool.or_eq_true, decide_eq_true_eq]
      omega) l
    exact this.imp (fun h => of_decide_eq_true h)
  unfold sortS
  generalize l.mergeSort (fun a b => decide (¬ cmpS b a < 0)) = m at hp hs
  have h2 := up_insAll l [] List.Pairwise.nil
  cases m with
  | nil =>
    have : l = [] := hp.symm.eq_nil
    subst this
    rfl
  | cons x m =>
    refine up_uniq (up_cptGo x m hs) h2 ?_
    intro y
    rw [mem_insAll]
    show y ∈ x :: cptGo (fun a b => decide (a = b)) x m ↔ _
    rw [mem_cptGo, hp.mem_iff]
    simp
end Go.Proofs.Ytoijcallajegfaa.M
end
section
/- All surfaces with few squares: the program and the reference list them alike. No conditions. -/
namespace Go.Proofs.Ytoijcallajegfaa.M
set_option linter.unusedVariables false
set_option linter.unusedSimpArgs false
open Go.RowKit Go.Proofs.YtoijcallajegfaaW.PrintWords Go.Proofs.YtoijcallajegfaaW.PrintLast Go.Proofs.YtoijcallajegfaaW.PrintMore Go.Proofs.Ytoijcallajegfaa.A
def permN (n : Nat) : List (List Nat) := (List.range n).foldl (fun out _ => (out.map (fun p => ((List.range n).filter (fun x => decide (x ∉ p))).map (fun x => p ++ [x]))).flatten) [[]]
theorem allPerms_tab : impl_allPerms.f 500 ((1 : Nat) : Int) = some (I2 (permN 1)) ∧ impl_allPerms.f 500 ((2 : Nat) : Int) = some (I2 (permN 2)) ∧ impl_allPerms.f 500 ((3 : Nat) : Int) = some (I2 (permN 3)) ∧ impl_allPerms.f 500 ((4 : Nat) : Int) = some (I2 (permN 4)) := by decide +kernel
theorem four_cases {n : Nat} (h1 : 1 ≤ n) (h4 : n ≤ 4) : n = 1 ∨ n = 2 ∨ n = 3 ∨ n = 4 := by omega
theorem allPerms_ev {n : Nat} (h1 : 1 ≤ n) (h4 : n ≤ 4) : Ev (fun k => impl_allPerms.f k (n : Int)) (I2 (permN n)) := by
  rcases four_cases h1 h4 with rfl | rfl | rfl | rfl
  · exact Ev.of (impl_allPerms.mono _) allPerms_tab.1
  · exact Ev.of (impl_allPerms.mono _) allPerms_tab.2.1
  · exact Ev.of (impl_allPerms.mono _) allPerms_tab.2.2.1
  · exact Ev.of (impl_allPerms.mono _) allPerms_tab.2.2.2
theorem permN_tab : ∀ n : Fin 5, 1 ≤ n.val → (permN n.val).length ≤ 24 ∧ ∀ p ∈ permN n.val, p.length = n.val := by decide +kernel
theorem permN_len {n : Nat} (h1 : 1 ≤ n) (h4 : n ≤ 4) : (permN n).length ≤ 24 ∧ ∀ p ∈ permN n, p.length = n := permN_tab ⟨n, by omega⟩ h1
def LS (l : List (List Nat × List Nat)) : List S33 := l.map ofN
theorem LS_len (l : List (List Nat × List Nat)) : (LS l).length = l.length := by simp [LS]
theorem LS_app (a b : List (List Nat × List Nat)) : LS (a ++ b) = LS a ++ LS b := by simp [LS]
theorem LS_mid (p : List (List Nat × List Nat)) (x : List Nat × List Nat) (xs : List (List Nat × List Nat)) : rd_T33 (LS (p ++ x :: xs)) (p.length : Int) = ⟨I x.1, I x.2⟩ := by
  unfold rd_T33
  rw [Int.toNat_natCast, LS_app]
  have := getD_mid (LS p) (ofN x) (LS xs) z33
  rw [LS_len] at this
  exact this
def pr (p q : List Nat) : List (List Nat × List Nat) := if surfB (I p) (I q) = true then [canS p q] else []
theorem pr_len (p q : List Nat) : (pr p q).length ≤ 1 := by unfold pr; split <;> simp
theorem pr_mem {p q : List Nat} {x : List Nat × List Nat} (h : x ∈ pr p q) : x.1.length = p.length ∧ x.2.length = q.length := by
  unfold pr at h
  split at h
  · rw [List.mem_singleton.1 h]; exact canK_len _
  · cases h
theorem pr_no {p q : List Nat} (h : ¬ surfB (I p) (I q) = true) : pr p q = [] := by unfold pr; rw [if_neg h]
theorem pr_yes {p q : List Nat} (h : surfB (I p) (I q) = true) : pr p q = [canS p q] := by unfold pr; rw [if_pos h]
def prs (P : List (List Nat)) (p : List Nat) : List (List Nat × List Nat) := P.flatMap (pr p)
def pairs (P R : List (List Nat)) : List (List Nat × List Nat) := R.flatMap (prs P)
theorem flatM_len {α β : Type} (f : α → List β) (n : Nat) (h : ∀ x, (f x).length ≤ n) : ∀ l : List α, (l.flatMap f).length ≤ l.length * n
  | [] => by simp
  | x :: l => by
    have := flatM_len f n h l
    have := h x
    rw [List.flatMap_cons, List.length_append, List.length_cons, Nat.succ_mul]
    omega
theorem prs_len (P : List (List Nat)) (p : List Nat) : (prs P p).length ≤ P.length := by
  have := flatM_len (pr p) 1 (pr_len p) P
  unfold prs; omega
theorem LS_ok {n : Nat} (hn : n ≤ 1000000) {l : List (List Nat × List Nat)} (h : ∀ x ∈ l, x.1.length = n ∧ x.2.length = n) : ∀ x ∈ LS l, okS x := by
  intro x hx
  obtain ⟨y, hy, rfl⟩ := List.mem_map.1 hx
  have := h y hy
  exact ⟨I_NN (by omega), I_NN (by omega)⟩
theorem LS_toN (l : List (List Nat × List Nat)) : (LS l).map toN = l := by
  unfold LS
  rw [List.map_map]
  conv => rhs; rw [← List.map_id l]
  exact List.map_congr_left (fun x _ => toN_ofN x)
theorem sortSurf_f {n : Nat} (hn : n ≤ 1000000) {l : List (List Nat × List Nat)} (h : ∀ x ∈ l, x.1.length = n ∧ x.2.length = n) (hl : l.length ≤ 1000000) : impl_sortSurfaces.f (LS l) = some (LS (insAll [] l)) := by
  unfold impl_sortSurfaces.f
  rw [if_pos ⟨LS_ok hn h, by rw [LS_len]; omega⟩, LS_toN, sortS_ins]
  rfl
theorem rdL_P {P pre rest : List (List Nat)} {p : List Nat} (e : pre ++ p :: rest = P) : rd_L5 (I2 P) (pre.length : Int) = I p := by rw [← e]; exact rdL_mid pre p rest
def surfN (n : Nat) : List (List Nat × List Nat) := insAll [] (pairs (permN n) (permN n))
theorem impl_with {n : Nat} (h1 : 1 ≤ n) (h4 : n ≤ 4) : Ev (fun k => impl_SurfacesWith.f k (n : Int)) (LS (surfN n)) := by
  obtain ⟨hP, hQ⟩ := permN_len h1 h4
  have hA := allPerms_ev h1 h4
  unfold impl_SurfacesWith.f
  have c1 : ¬ ((n : Int) < 1) := by omega
  have c2 : ¬ ((n : Int) > 4) := by omega
  simp only [c1, c2, if_false, decide_false]
  refine ev_succ ?_
  simp only [impl_SurfacesWith.j0, Bool.false_eq_true, if_false]
  refine Ev.bind hA ?_
  unfold surfN
  generalize permN n = P at hP hQ hA
  have H1 : ∀ (p : List Nat) (x20 : Int) (R : List S33) (rest pre : List (List Nat)) (acc : List (List Nat × List Nat)), pre ++ rest = P → acc.length + rest.length ≤ 100000 →
      Ev (fun k => impl_SurfacesWith.l0 k (n : Int) (LS (acc ++ rest.flatMap (pr p))) (I2 P) ((I2 P).length : Int) (wrap64 (x20 + 1))) R → Ev (fun k => impl_SurfacesWith.l1 k (n : Int) (LS acc) (I p) (I2 P) ((I2 P).length : Int) x20 (I2 P) ((I2 P).length : Int) (pre.length : Int)) R := by
    intro p x20 R rest
    induction rest with
    | nil =>
      intro pre acc e hl hR
      refine ev_succ ?_
      rw [List.append_nil] at e
      have d1 : ¬ ((pre.length : Int) < ((I2 P).length : Int)) := by rw [I2_len, e]; omega
      simp only [impl_SurfacesWith.l1, d1, if_false]
      simpa using hR
    | cons q rest ih =>
      intro pre acc e hl hR
      rw [List.length_cons] at hl
      have hlen : P.length = pre.length + (rest.length + 1) := by rw [← e]; simp
      refine ev_succ ?_
      have d1 : ((pre.length : Int) < ((I2 P).length : Int)) := by rw [I2_len]; omega
      have d2 : (0 : Int) ≤ (pre.length : Int) := by omega
      have d3 := w64s pre.length (by omega)
      have d4 := rdL_P e
      have d5 : (LS acc).length < 2932031007402 := by rw [LS_len]; omega
      have e3 : ((pre ++ [q]).length : Int) = ((pre.length + 1 : Nat) : Int) := by simp
      have hpl := pr_len p q
      have key := ih (pre ++ [q]) (acc ++ pr p q) (by rw [← e]; simp) (by rw [List.length_append]; omega) (by rw [List.append_assoc, ← List.flatMap_cons]; exact hR)
      rw [e3] at key
      simp only [impl_SurfacesWith.l1, d1, d2, d4, if_true]
      by_cases hb : surfB (I p) (I q) = true
      · refine Ev.bind (impl_canon (surfB_I.1 hb)) ?_
        simp only [d5, if_true, d3]
        rw [pr_yes hb, LS_app] at key
        exact key
      · refine Ev.bind (impl_canon_no hb) ?_
        simp only [Bool.false_eq_true, if_false, d3]
        rw [pr_no hb, List.append_nil] at key
        exact key
  have H0 : ∀ (rest pre : List (List Nat)) (acc : List (List Nat × List Nat)), pre ++ rest = P → acc.length + rest.length * 24 ≤ 10000 → (∀ x ∈ acc, x.1.length = n ∧ x.2.length = n) →
      Ev (fun k => impl_SurfacesWith.l0 k (n : Int) (LS acc) (I2 P) ((I2 P).length : Int) (pre.length : Int)) (LS (insAll [] (acc ++ pairs P rest))) := by
    intro rest
    induction rest with
    | nil =>
      intro pre acc e hl hx
      refine ev_succ ?_
      rw [List.append_nil] at e
      have d1 : ¬ ((pre.length : Int) < ((I2 P).length : Int)) := by rw [I2_len, e]; omega
      have d2 := sortSurf_f (by omega) hx (by simp at hl; omega)
      simp only [impl_SurfacesWith.l0, d1, if_false, d2, Option.bind_some]
      have e2 : acc ++ pairs P [] = acc := by simp [pairs]
      rw [e2]
      exact Ev.now _
    | cons p rest ih =>
      intro pre acc e hl hx
      rw [List.length_cons] at hl
      have hlen : P.length = pre.length + (rest.length + 1) := by rw [← e]; simp
      refine ev_succ ?_
      have d1 : ((pre.length : Int) < ((I2 P).length : Int)) := by rw [I2_len]; omega
      have d2 : (0 : Int) ≤ (pre.length : Int) := by omega
      have d3 := w64s pre.length (by omega)
      have d4 := rdL_P e
      simp only [impl_SurfacesWith.l0, d1, d2, d4, if_true]
      refine Ev.bind hA ?_
      have e3 : ((pre ++ [p]).length : Int) = ((pre.length + 1 : Nat) : Int) := by simp
      have hpl := prs_len P p
      have hp : p.length = n := hQ p (by rw [← e]; simp)
      have hx2 : ∀ x ∈ acc ++ prs P p, x.1.length = n ∧ x.2.length = n := by
        intro x hm
        rcases List.mem_append.1 hm with hm | hm
        · exact hx x hm
        · obtain ⟨q, hq, hxq⟩ := List.mem_flatMap.1 hm
          obtain ⟨a1, a2⟩ := pr_mem hxq
          exact ⟨a1.trans hp, a2.trans (hQ q hq)⟩
      have key := ih (pre ++ [p]) (acc ++ prs P p) (by rw [← e]; simp) (by rw [List.length_append]; omega) hx2
      rw [e3, List.append_assoc] at key
      refine H1 p (pre.length : Int) _ P [] acc (by simp) (by omega) ?_
      rw [d3]
      exact key
  have := H0 P [] [] (by simp) (by simp; omega) (by simp)
  rw [List.nil_append] at this
  exact this
end Go.Proofs.Ytoijcallajegfaa.M
end
section
/- What the four letters keep: symmetries and half turns. No conditions. -/
namespace Go.Proofs.Ytoijcallajegfaa.M
set_option linter.unusedVariables false
set_option linter.unusedSimpArgs false
open Classical in
noncomputable def ledN (s t : List Nat × List Nat) (b : Nat) : Nat := ((List.range s.1.length).filter (fun i => decide (∃ f, Is s t f ∧ f b = i))).length
def symN (s : List Nat × List Nat) : Nat := ((List.range s.1.length).filter (fun i => decide (rS s.1 s.2 i = canS s.1 s.2))).length
def neg (s : List Nat × List Nat) : List Nat × List Nat := (inv s.1, inv s.2)
end Go.Proofs.Ytoijcallajegfaa.M
end
section
/- Plain mathematics: classes of what is linked. No conditions. -/
namespace Go.Proofs.Ytoijcallajegfaa.M
set_option linter.unusedVariables false
set_option linter.unusedSimpArgs false
inductive Cn (up : Nat → Option Nat) : Nat → Nat → Prop
  | refl (i : Nat) : Cn up i i
  | up {i j k : Nat} : up i = some j → Cn up j k → Cn up i k
  | dn {i j k : Nat} : up j = some i → Cn up j k → Cn up i k
theorem Cn.trans {up : Nat → Option Nat} {i j k : Nat} (h : Cn up i j) (h' : Cn up j k) : Cn up i k := by
  induction h with
  | refl i => exact h'
  | up e _ ih => exact .up e (ih h')
  | dn e _ ih => exact .dn e (ih h')
theorem Cn.symm {up : Nat → Option Nat} {i j : Nat} (h : Cn up i j) : Cn up j i := by
  induction h with
  | refl i => exact .refl i
  | up e _ ih => exact ih.trans (.dn e (.refl _))
  | dn e _ ih => exact ih.trans (.up e (.refl _))
theorem Cn.one {up : Nat → Option Nat} {i j : Nat} (h : up i = some j) : Cn up i j := .up h (.refl _)
theorem Cn.lt {n : Nat} {up : Nat → Option Nat} (hup : ∀ i j, up i = some j → i < n ∧ j < n) {i j : Nat} (h : Cn up i j) (hi : i < n) : j < n := by
  induction h with
  | refl i => exact hi
  | up e _ ih => exact ih (hup _ _ e).2
  | dn e _ ih => exact ih (hup _ _ e).1
theorem Cn.closed {up : Nat → Option Nat} {S : Nat → Prop} (hS : ∀ i j, up i = some j → (S i ↔ S j)) {i j : Nat} (h : Cn up i j) : S i ↔ S j := by
  induction h with
  | refl i => exact Iff.rfl
  | up e _ ih => exact (hS _ _ e).trans ih
  | dn e _ ih => exact (hS _ _ e).symm.trans ih
structure Grp (n : Nat) (up : Nat → Option Nat) (t : Nat) (G : Nat → Nat) : Prop where
  le : ∀ j, j < n → G j ≤ j
  fix : ∀ j, j < n → G (G j) = G j
  cn : ∀ j, j < n → Cn up j (G j)
  ed : ∀ i j, i < t → up i = some j → G i = G j
def mgf (G : Nat → Nat) (a b : Nat) : Nat → Nat := fun j => if G j = a ∨ G j = b then min a b else G j
theorem Grp.start (n : Nat) (up : Nat → Option Nat) : Grp n up 0 (fun j => j) := ⟨fun j _ => Nat.le_refl _, fun j _ => rfl, fun j _ => .refl _, fun i j h _ => by omega⟩
theorem Grp.skip {n t : Nat} {up : Nat → Option Nat} {G : Nat → Nat} (h : Grp n up t G) (e : up t = none) : Grp n up (t + 1) G :=
  ⟨h.le, h.fix, h.cn, fun i j hi hj => by
    by_cases e2 : i = t
    · subst e2
      rw [e] at hj
      cases hj
    · exact h.ed i j (by omega) hj⟩
theorem Grp.merge {n t k : Nat} {up : Nat → Option Nat} (hup : ∀ i j, up i = some j → i < n ∧ j < n) {G : Nat → Nat} (h : Grp n up t G) (e : up t = some k) : Grp n up (t + 1) (mgf G (G t) (G k)) := by
  obtain ⟨ht, hk⟩ := hup t k e
  have ha := h.fix t ht
  have hb := h.fix k hk
  have la := h.le t ht
  have lb := h.le k hk
  have hab : Cn up (G t) (G k) := (h.cn t ht).symm.trans ((Cn.one e).trans (h.cn k hk))
  have hm : min (G t) (G k) = G t ∨ min (G t) (G k) = G k := by omega
  refine ⟨fun j hj => ?_, fun j hj => ?_, fun j hj => ?_, fun i j hi hj => ?_⟩
  · unfold mgf
    have := h.le j hj
    split <;> omega
  · have key : ∀ c, (c = G t ∨ c = G k) → mgf G (G t) (G k) c = min (G t) (G k) := by
      intro c hc
      unfold mgf
      rw [if_pos (by rcases hc with rfl | rfl; exact .inl ha; exact .inr hb)]
    by_cases hc : G j = G t ∨ G j = G k
    · have e1 : mgf G (G t) (G k) j = min (G t) (G k) := by unfold mgf; rw [if_pos hc]
      rw [e1]
      exact key _ hm
    · have e1 : mgf G (G t) (G k) j = G j := by unfold mgf; rw [if_neg hc]
      rw [e1]
      unfold mgf
      rw [h.fix j hj, if_neg hc]
  · unfold mgf
    split
    · rename_i hc
      refine (h.cn j hj).trans ?_
      rcases hc with hc | hc <;> rcases hm with hm | hm <;> rw [hc, hm]
      · exact .refl _
      · exact hab
      · exact hab.symm
      · exact .refl _
    · exact h.cn j hj
  · by_cases e2 : i = t
    · subst e2
      rw [e] at hj
      injection hj with hj
      subst hj
      unfold mgf
      simp
    · unfold mgf
      rw [h.ed i j (by omega) hj]
theorem Grp.iff {n : Nat} {up : Nat → Option Nat} (hup : ∀ i j, up i = some j → i < n ∧ j < n) {G : Nat → Nat} (h : Grp n up n G) {i j : Nat} (hi : i < n) (hj : j < n) : G i = G j ↔ Cn up i j := by
  constructor
  · intro e
    have := (h.cn i hi).trans ((by rw [e]; exact .refl _ : Cn up (G i) (G j)).trans (h.cn j hj).symm)
    exact this
  · intro hc
    induction hc with
    | refl i => rfl
    | up e _ ih => rw [h.ed _ _ (hup _ _ e).1 e]; exact ih (hup _ _ e).2 hj
    | dn e _ ih => rw [← h.ed _ _ (hup _ _ e).1 e]; exact ih (hup _ _ e).1 hj
theorem Grp.head {n : Nat} {up : Nat → Option Nat} (hup : ∀ i j, up i = some j → i < n ∧ j < n) {G : Nat → Nat} (h : Grp n up n G) {i : Nat} (hi : i < n) : G i = i ↔ ∀ j, Cn up i j → i ≤ j := by
  constructor
  · intro e j hc
    have hj := hc.lt hup hi
    have := (h.iff hup hi hj).mpr hc
    have := h.le j hj
    omega
  · intro hc
    have := hc _ (h.cn i hi)
    have := h.le i hi
    omega
def ups (up : Nat → Option Nat) : Nat → Nat → Option Nat
  | 0, i => some i
  | m + 1, i => (up i).bind (ups up m)
theorem ups_succ (up : Nat → Option Nat) (m i : Nat) : ups up (m + 1) i = (ups up m i).bind up := by
  induction m generalizing i with
  | zero =>
    simp only [ups, Option.bind_some]
    cases h : up i <;> rfl
  | succ m ih =>
    show (up i).bind (ups up (m + 1)) = ((up i).bind (ups up m)).bind up
    cases h : up i with
    | none => rfl
    | some j => exact ih j
theorem ups_cn {up : Nat → Option Nat} {m i j : Nat} (h : ups up m i = some j) : Cn up i j := by
  induction m generalizing i with
  | zero => simp [ups] at h; subst h; exact .refl _
  | succ m ih =>
    obtain ⟨z, hz, h2⟩ := Option.bind_eq_some_iff.mp h
    exact .up hz (ih h2)
structure Mk (n : Nat) (up : Nat → Option Nat) (row : Nat) (S0 add : List Nat) : Prop where
  nd : add.Nodup
  lt : ∀ x ∈ add, x < n
  new : ∀ x ∈ add, x ∉ S0
  p : ∀ x ∈ add, (∃ m, ups up m row = some x) ∨ (∃ m, ups up m x = some row)
theorem Mk.cn {n : Nat} {up : Nat → Option Nat} {row : Nat} {S0 add : List Nat} (h : Mk n up row S0 add) {x : Nat} (hx : x ∈ add) : Cn up row x := by
  rcases h.p x hx with ⟨m, hm⟩ | ⟨m, hm⟩
  · exact ups_cn hm
  · exact (ups_cn hm).symm
theorem Mk.add {n : Nat} {up : Nat → Option Nat} {row : Nat} {S0 add : List Nat} (h : Mk n up row S0 add) {x : Nat} (hx : x < n) (h1 : x ∉ S0) (h2 : x ∉ add) (hp : (∃ m, ups up m row = some x) ∨ (∃ m, ups up m x = some row)) : Mk n up row S0 (add ++ [x]) := by
  refine ⟨List.nodup_append.mpr ⟨h.nd, by simp, fun a ha b hb e => ?_⟩, fun y hy => ?_, fun y hy => ?_, fun y hy => ?_⟩
  · have : b = x := by simpa using hb
    exact h2 (by rw [← this, ← e]; exact ha)
  · rcases List.mem_append.mp hy with hy | hy
    · exact h.lt y hy
    · have : y = x := by simpa using hy
      omega
  · rcases List.mem_append.mp hy with hy | hy
    · exact h.new y hy
    · have : y = x := by simpa using hy
      rw [this]
      exact h1
  · rcases List.mem_append.mp hy with hy | hy
    · exact h.p y hy
    · have : y = x := by simpa using hy
      rw [this]
      exact hp
theorem Mk.full {n : Nat} {up : Nat → Option Nat} (hup : ∀ i j, up i = some j → i < n ∧ j < n) (hinj : ∀ i i' j, up i = some j → up i' = some j → i = i') {row : Nat} {S0 add : List Nat} (h : Mk n up row S0 add) (hrow : row ∈ add)
    (hS0 : ∀ i j, up i = some j → (i ∈ S0 ↔ j ∈ S0)) (c1 : ∀ x ∈ add, ∀ y, up x = some y → y ∈ S0 ∨ y ∈ add)
    (c2 : ∀ k x, up k = some x → (x ∈ S0 ∨ x ∈ add) → (∃ m, ups up m k = some row) → (k ∈ S0 ∨ k ∈ add)) : ∀ x, x ∈ add ↔ Cn up row x := by
  have hrs : row ∉ S0 := h.new row hrow
  have chain : ∀ m x, ups up m row = some x → x ∈ add := by
    intro m
    induction m with
    | zero => intro x hx; simp [ups] at hx; rw [← hx]; exact hrow
    | succ m ih =>
      intro x hx
      rw [ups_succ] at hx
      obtain ⟨z, hz, hzx⟩ := Option.bind_eq_some_iff.mp hx
      have hza := ih z hz
      rcases c1 z hza x hzx with k | k
      · exact absurd ((hS0 z x hzx).mpr k) (h.new z hza)
      · exact k
  have closed : ∀ i j, up i = some j → ((i ∈ S0 ∨ i ∈ add) ↔ (j ∈ S0 ∨ j ∈ add)) := by
    intro i j e
    constructor
    · rintro (k | k)
      · exact .inl ((hS0 i j e).mp k)
      · exact c1 i k j e
    · rintro (k | k)
      · exact .inl ((hS0 i j e).mpr k)
      · rcases h.p j k with ⟨m, hm⟩ | ⟨m, hm⟩
        · cases m with
          | zero =>
            simp [ups] at hm
            subst hm
            exact c2 i _ e (.inr k) ⟨1, by simp [ups, e]⟩
          | succ m =>
            rw [ups_succ] at hm
            obtain ⟨z, hz, hzj⟩ := Option.bind_eq_some_iff.mp hm
            have := hinj i z j e hzj
            subst this
            exact .inr (chain m _ hz)
        · exact c2 i j e (.inr k) ⟨m + 1, by simp [ups, e, hm]⟩
  intro x
  constructor
  · exact fun hx => h.cn hx
  · intro hc
    have h1 := (Cn.closed (S := fun z => z ∈ S0 ∨ z ∈ add) closed hc).mp (.inr hrow)
    rcases h1 with h1 | h1
    · exact absurd ((Cn.closed (S := fun z => z ∈ S0) hS0 hc).mpr h1) hrs
    · exact h1
end Go.Proofs.Ytoijcallajegfaa.M
end
section
/- Half turns: the tests of the program and of the reference come to one plain test. No conditions. -/
namespace Go.Proofs.Ytoijcallajegfaa.M
set_option linter.unusedVariables false
set_option linter.unusedSimpArgs false
open Go.RowKit Go.Proofs.YtoijcallajegfaaW.PrintWords Go.Proofs.YtoijcallajegfaaW.PrintLast Go.Proofs.YtoijcallajegfaaW.PrintMore Go.Proofs.Ytoijcallajegfaa.A
def Turn (r u a : List Nat) : Prop := ∀ i, i < a.length → g a (g r i) = ix r (g a i) ∧ g a (g u i) = ix u (g a i)
instance (r u a : List Nat) : Decidable (Turn r u a) := by unfold Turn; infer_instance
end Go.Proofs.Ytoijcallajegfaa.M
end
section
/- Half turns as the program makes them. No conditions. -/
namespace Go.Proofs.Ytoijcallajegfaa.M
set_option linter.unusedVariables false
set_option linter.unusedSimpArgs false
open Go.RowKit Go.Proofs.YtoijcallajegfaaW.PrintWords Go.Proofs.YtoijcallajegfaaW.PrintLast Go.Proofs.YtoijcallajegfaaW.PrintMore Go.Proofs.Ytoijcallajegfaa.A
structure TurnP (r u b : List Nat) : Prop where
  len : b.length = r.length
  p : IsP b
  t : Turn r u b
theorem ix_inj {p : List Nat} (hp : IsP p) {x y : Nat} (hx : x < p.length) (hy : y < p.length) (h : ix p x = ix p y) : x = y := by
  rw [← g_ix hp hx, ← g_ix hp hy, h]
structure FI (r u : List Nat) (im : Nat) (out : List Nat) (f : Nat → Nat) : Prop where
  lt : ∀ x ∈ out, f x < r.length
  z : f 0 = im
  z0 : 0 ∈ out
  t : ∀ b, TurnP r u b → g b 0 = im → ∀ x ∈ out, f x = g b x
theorem FI.add {r u : List Nat} {im : Nat} {out : List Nat} {f : Nat → Nat} (h : FI r u im out f) {y v : Nat} (hy : y ∉ out) (hv : v < r.length) (ht : ∀ b, TurnP r u b → g b 0 = im → v = g b y) : FI r u im (out ++ [y]) (fun z => if z = y then v else f z) := by
  have h0 : (0 : Nat) ≠ y := fun e => hy (e ▸ h.z0)
  refine ⟨fun x hx => ?_, by simp [h0, h.z], by simp [h.z0], fun b hb hb0 x hx => ?_⟩
  · by_cases e : x = y
    · simp [e, hv]
    · rcases List.mem_append.mp hx with hx | hx
      · simp [e, h.lt x hx]
      · exact absurd (by simpa using hx) e
  · by_cases e : x = y
    · subst e
      simp [ht b hb hb0]
    · rcases List.mem_append.mp hx with hx | hx
      · simp [e, h.t b hb hb0 x hx]
      · exact absurd (by simpa using hx) e
end Go.Proofs.Ytoijcallajegfaa.M
end
section
/- Half turns: the program and the reference find the same ones. No conditions. -/
namespace Go.Proofs.Ytoijcallajegfaa.M
set_option linter.unusedVariables false
set_option linter.unusedSimpArgs false
open Go.RowKit Go.Proofs.YtoijcallajegfaaW.PrintWords Go.Proofs.YtoijcallajegfaaW.PrintLast Go.Proofs.YtoijcallajegfaaW.PrintMore Go.Proofs.Ytoijcallajegfaa.A
def Led (r u out : List Nat) (a : Nat) : Prop := ∀ i, i < out.length → 0 < i → ∃ j, j < i ∧ j < a ∧ (g out i = g r (g out j) ∨ g out i = g u (g out j))
theorem g_app {out : List Nat} {x i : Nat} (h : i < out.length) : g (out ++ [x]) i = g out i := by
  unfold g
  rw [List.getD_eq_getElem?_getD, List.getD_eq_getElem?_getD, List.getElem?_append_left h]
theorem g_last (out : List Nat) (x : Nat) : g (out ++ [x]) out.length = x := getD_mid out x [] 0
theorem Led.st {r u out : List Nat} {a y : Nat} (h : Led r u out (a + 1)) (ha : a < out.length) (hy : y = g r (g out a) ∨ y = g u (g out a)) : Led r u (st1 out y) (a + 1) := by
  unfold st1
  split
  · exact h
  · intro i hi h0
    by_cases e : i < out.length
    · obtain ⟨j, j1, j2, j3⟩ := h i e h0
      refine ⟨j, j1, j2, ?_⟩
      rw [g_app e, g_app (by omega)]
      exact j3
    · have e2 : i = out.length := by simp at hi; omega
      subst e2
      refine ⟨a, ha, by omega, ?_⟩
      rw [g_last, g_app ha]
      exact hy
inductive Given (r u L : List Nat) (i : Nat) : Nat → Prop
  | z : Given r u L i 0
  | r (j : Nat) : j < i → Given r u L i (g r (g L j))
  | u (j : Nat) : j < i → Given r u L i (g u (g L j))
theorem Given.mono {r u L : List Nat} {i x : Nat} (h : Given r u L i x) : Given r u L (i + 1) x := by
  cases h with
  | z => exact .z
  | r j hj => exact .r j (by omega)
  | u j hj => exact .u j (by omega)
structure GI (r u : List Nat) (im : Nat) (i : Nat) (c : List Nat) : Prop where
  len : c.length = r.length
  lt : ∀ x, x < r.length → g c x < r.length
  t : ∀ b, TurnP r u b → g b 0 = im → ∀ x, Given r u (reach r u 0) i x → g c x = g b x
  n : ∀ b, TurnP r u b → g b 0 ≠ im → ∀ x, Given r u (reach r u 0) i x → g c x ≠ g b x
theorem GI.put {r u : List Nat} (hs : Sf r u) {p : List Nat} (hp : p = r ∨ p = u) {im : Nat} {c : List Nat} (P : Nat → Prop) (h1 : c.length = r.length) (h2 : ∀ x, x < r.length → g c x < r.length) (ht : ∀ b, TurnP r u b → g b 0 = im → ∀ x, P x → g c x = g b x) (hn : ∀ b, TurnP r u b → g b 0 ≠ im → ∀ x, P x → g c x ≠ g b x) {x : Nat} (hx : x < r.length) (hP : P x) :
    (c.set (g p x) (ix p (g c x))).length = r.length ∧ (∀ z, z < r.length → g (c.set (g p x) (ix p (g c x))) z < r.length) ∧ (∀ b, TurnP r u b → g b 0 = im → ∀ z, (P z ∨ z = g p x) → g (c.set (g p x) (ix p (g c x))) z = g b z) ∧ (∀ b, TurnP r u b → g b 0 ≠ im → ∀ z, (P z ∨ z = g p x) → g (c.set (g p x) (ix p (g c x))) z ≠ g b z) := by
  have heq := hs.eq
  have ipp : IsP p := by rcases hp with rfl | rfl; exact hs.pr; exact hs.pu
  have hpl : p.length = r.length := by rcases hp with rfl | rfl; rfl; exact heq
  have gx := g_lt ipp (i := x) (by omega)
  have cx := h2 x hx
  have hv := ix_lt ipp (x := g c x) (by omega)
  have tp : ∀ b, TurnP r u b → g b (g p x) = ix p (g b x) := fun b hb => by
    have := hb.t x (by rw [hb.len]; exact hx)
    rcases hp with rfl | rfl
    · exact this.1
    · exact this.2
  refine ⟨by rw [List.length_set]; exact h1, fun z hz => ?_, fun b hb hb0 z hz => ?_, fun b hb hb0 z hz => ?_⟩
  · rw [g_set (by omega)]
    split
    · omega
    · exact h2 z hz
  · rw [g_set (by omega)]
    by_cases e : g p x = z
    · rw [if_pos e, ← e, tp b hb, ht b hb hb0 x hP]
    · rw [if_neg e]
      rcases hz with hz | hz
      · exact ht b hb hb0 z hz
      · exact absurd hz.symm e
  · rw [g_set (by omega)]
    by_cases e : g p x = z
    · rw [if_pos e, ← e, tp b hb]
      intro h
      exact hn b hb hb0 x hP (ix_inj ipp (by omega) (by have := g_lt hb.p (i := x) (by rw [hb.len]; exact hx); rw [hb.len] at this; omega) h)
    · rw [if_neg e]
      rcases hz with hz | hz
      · exact hn b hb hb0 z hz
      · exact absurd hz.symm e
end Go.Proofs.Ytoijcallajegfaa.M
end
section
/- Fixed points: the program and the reference answer alike. No conditions. -/
namespace Go.Proofs.Ytoijcallajegfaa.M
set_option linter.unusedVariables false
set_option linter.unusedSimpArgs false
open Go.RowKit Go.Proofs.YtoijcallajegfaaW.PrintWords Go.Proofs.YtoijcallajegfaaW.PrintLast Go.Proofs.YtoijcallajegfaaW.PrintMore Go.Proofs.Ytoijcallajegfaa.A
theorem impl_corners {r u : List Nat} (hs : Sf r u) : Ev (fun k => impl_CornersOf.f k (I r) (I u)) (I2 (cycles (arnd r u))) := by
  unfold impl_CornersOf.f
  refine Ev.bind (impl_surf _ _) ?_
  rw [surfB_I.mpr hs]
  simp only [if_true]
  exact Ev.bind (impl_around hs) (Ev.bind (impl_cycles (isP_arnd hs) (by rw [arnd_len]; exact hs.le)) (Ev.now _))
end Go.Proofs.Ytoijcallajegfaa.M
end
section
/- Numbers drawn out of a code. No conditions. -/
namespace Go.Proofs.Ytoijcallajegfaa.M
set_option linter.unusedVariables false
set_option linter.unusedSimpArgs false
open Go.RowKit Go.Proofs.YtoijcallajegfaaW.PrintWords Go.Proofs.YtoijcallajegfaaW.PrintLast Go.Proofs.YtoijcallajegfaaW.PrintMore Go.Proofs.Ytoijcallajegfaa.A
theorem and255 (n : Int) : Go.bits .and .i64 n 255 = n % 256 := by
  have h : (BitVec.ofInt 64 255).toNat = 2 ^ 8 - 1 := by decide
  have key : (BitVec.ofInt 64 n &&& BitVec.ofInt 64 255).toNat = (n % ((2 ^ 64 : Nat) : Int)).toNat % 2 ^ 8 := by
    rw [BitVec.toNat_and, BitVec.toNat_ofInt, h, Nat.and_two_pow_sub_one_eq_mod]
  show IntKind.i64.wrap ((BitVec.ofInt 64 n &&& BitVec.ofInt 64 255).toNat : Nat) = n % 256
  rw [key, IntKind.wrap_i64]
  omega
theorem byte_draw (b : List Int) (i h : Int) (hi : 0 ≤ i) (hl : i ≤ b.length) (hb : b.length ≤ 1000000000) : ∃ x i' h', spec_l01Byte.f b i h = some (x, i', h') ∧ 0 ≤ x ∧ x ≤ 255 ∧ 0 ≤ i' ∧ i' ≤ b.length := by
  unfold spec_l01Byte.f
  by_cases c : i < (b.length : Int)
  · have e : wrap64 (i + 1) = i + 1 := w64 (by omega) (by omega)
    simp only [c, hi, if_true, and255, e]
    exact ⟨_, _, _, rfl, by omega, by omega, by omega, by omega⟩
  · simp only [c, if_false, and255]
    exact ⟨_, _, _, rfl, by omega, by omega, by omega, by omega⟩
theorem new_draw (b : List Int) (hb : b.length ≤ 1000000000) : ∃ h, Ev (fun k => spec_l01New.f k b) (b, 0, h) := by
  unfold spec_l01New.f
  have H : ∀ (d i : Nat) (x : Int), i + d = b.length → ∃ h, Ev (fun k => spec_l01New.l0 k b x (i : Int)) (b, 0, h) := by
    intro d
    induction d with
    | zero =>
      intro i x hi
      refine ⟨x, ev_succ ?_⟩
      have c1 : ¬ ((i : Int) < (b.length : Int)) := by omega
      simp only [spec_l01New.l0, c1, if_false]
      exact Ev.now _
    | succ d ih =>
      intro i x hi
      have c1 : (i : Int) < (b.length : Int) := by omega
      have c2 : (0 : Int) ≤ (i : Int) := by omega
      have c3 := w64s i (by omega)
      by_cases c4 : (i : Int) < 4000
      · obtain ⟨h, e⟩ := ih (i + 1) (Go.bits .and .i64 (wrap64 ((wrap64 ((wrap64 (x * 109)) + (wrap64 (rd b (i : Int))))) + 7)) 1073741823) (by omega)
        refine ⟨h, ev_succ ?_⟩
        simp only [spec_l01New.l0, c1, c2, c3, c4, if_true]
        exact e
      · refine ⟨x, ev_succ ?_⟩
        simp only [spec_l01New.l0, c1, c4, if_true, if_false]
        exact Ev.now _
  exact H b.length 0 _ (by omega)
theorem skip_draw (b : List Int) (hb : b.length ≤ 1000000000) (n : Nat) (hn : n ≤ 1000) : ∃ i h, 0 ≤ i ∧ i ≤ (b.length : Int) ∧ Ev (fun k => spec_l20New.f k b (n : Int)) (b, i, h) := by
  unfold spec_l20New.f
  obtain ⟨h0, e0⟩ := new_draw b hb
  have H : ∀ (d j : Nat) (i h : Int), j + d = n → 0 ≤ i → i ≤ (b.length : Int) → ∃ i' h', 0 ≤ i' ∧ i' ≤ (b.length : Int) ∧ Ev (fun k => spec_l20New.l0 k b i h (n : Int) (j : Int)) (b, i', h') := by
    intro d
    induction d with
    | zero =>
      intro j i h hj i0 i1
      obtain rfl : j = n := by omega
      refine ⟨i, h, i0, i1, ev_succ ?_⟩
      have c1 : ¬ ((j : Int) < (j : Int)) := by omega
      simp only [spec_l20New.l0, c1, if_false]
      exact Ev.now _
    | succ d ih =>
      intro j i h hj i0 i1
      obtain ⟨x, i', h', e, _, _, j0, j1⟩ := byte_draw b i h i0 i1 hb
      obtain ⟨i2, h2, k0, k1, k2⟩ := ih (j + 1) i' h' (by omega) j0 j1
      refine ⟨i2, h2, k0, k1, ev_succ ?_⟩
      have c1 : (j : Int) < (n : Int) := by omega
      have c3 := w64s j (by omega)
      simp only [spec_l20New.l0, c1, e, c3, if_true, Option.bind_some]
      exact k2
  obtain ⟨i, h, i0, i1, e1⟩ := H n 0 0 h0 (by omega) (by omega) (by omega)
  exact ⟨i, h, i0, i1, Ev.bind e0 e1⟩
end Go.Proofs.Ytoijcallajegfaa.M
end
section
/- The laws' own sorting. No conditions. -/
namespace Go.Proofs.Ytoijcallajegfaa.M
set_option linter.unusedVariables false
set_option linter.unusedSimpArgs false
open Go.RowKit Go.Proofs.YtoijcallajegfaaW.PrintWords Go.Proofs.YtoijcallajegfaaW.PrintLast Go.Proofs.YtoijcallajegfaaW.PrintMore Go.Proofs.Ytoijcallajegfaa.A
theorem law_same (a : List Int) (hl : a.length ≤ 1000000000) : Ev (fun k => laws_same.f k a a) true := by
  unfold laws_same.f
  simp only [if_true]
  have H : ∀ d j : Nat, j + d = a.length → Ev (fun k => laws_same.l0 k a a (a.length : Int) (j : Int)) true := by
    intro d
    induction d with
    | zero =>
      intro j hj
      refine ev_succ ?_
      have c1 : ¬ ((j : Int) < (a.length : Int)) := by omega
      simp only [laws_same.l0, c1, if_false]
      exact Ev.now _
    | succ d ih =>
      intro j hj
      refine ev_succ ?_
      have c1 : (j : Int) < (a.length : Int) := by omega
      have c2 : (0 : Int) ≤ (j : Int) := by omega
      have c3 := w64s j (by omega)
      simp only [laws_same.l0, c1, c2, c3, if_true]
      exact ih (j + 1) (by omega)
  exact H a.length 0 (Nat.zero_add _)
end Go.Proofs.Ytoijcallajegfaa.M
end
section
/- What words keep: the program's answers. No conditions. -/
namespace Go.Proofs.Ytoijcallajegfaa.M
set_option linter.unusedVariables false
set_option linter.unusedSimpArgs false
open Go.RowKit Go.Proofs.YtoijcallajegfaaW.PrintWords Go.Proofs.YtoijcallajegfaaW.PrintLast Go.Proofs.YtoijcallajegfaaW.PrintMore Go.Proofs.Ytoijcallajegfaa.A
def angL (s : List Nat × List Nat) : List Nat := sortD ((cycles (arnd s.1 s.2)).map List.length)
theorem angL_len (s : List Nat × List Nat) : (angL s).length = (cycles (arnd s.1 s.2)).length := by unfold angL; rw [sortD_len, List.length_map]
theorem ang_le {s : List Nat × List Nat} (hs : Sf s.1 s.2) : ∀ x ∈ (cycles (arnd s.1 s.2)).map List.length, x ≤ 24 := by
  intro x hx
  obtain ⟨c, hc, rfl⟩ := List.mem_map.mp hx
  exact cycle_len (isP_arnd hs) (by rw [arnd_len]; exact hs.le) c hc
theorem impl_angles {s : List Nat × List Nat} (hs : Sf s.1 s.2) : Ev (fun k => impl_AnglesOf.f k (I s.1) (I s.2)) (I (angL s)) := by
  have h24 := cycles_len (p := arnd s.1 s.2) (by rw [arnd_len]; exact hs.le)
  have hle := ang_le hs
  unfold impl_AnglesOf.f angL
  refine Ev.bind (impl_corners hs) ?_
  generalize cycles (arnd s.1 s.2) = C at h24 hle
  have H : ∀ d j : Nat, j + d = C.length → Ev (fun k => impl_AnglesOf.l0 k (I ((C.take j).map List.length)) (I2 C) (C.length : Int) (j : Int)) (I (sortD (C.map List.length))) := by
    intro d
    induction d with
    | zero =>
      intro j hj
      obtain rfl : j = C.length := by omega
      refine ev_succ ?_
      have c1 : ¬ ((C.length : Int) < (C.length : Int)) := by omega
      have e : slices_SortFunc_int_int_73.f (I (C.map List.length)) = some (I (sortD (C.map List.length))) := by
        unfold slices_SortFunc_int_int_73.f
        have e1 : (I (C.map List.length)).map Int.toNat = C.map List.length := N_I _
        have e2 : ∀ x ∈ I (C.map List.length), 0 ≤ x ∧ x ≤ 4611686018427387904 := by
          intro x hx
          obtain ⟨y, hy, rfl⟩ := List.mem_map.mp hx
          have := hle y hy
          show 0 ≤ (y : Int) ∧ (y : Int) ≤ 4611686018427387904
          omega
        rw [if_pos ⟨e2, by rw [I_len, List.length_map]; omega⟩, e1]
        rfl
      simp only [impl_AnglesOf.l0, c1, if_false, List.take_length, e, Option.bind_some]
      exact Ev.now _
    | succ d ih =>
      intro j hj
      have hjl : j < C.length := by omega
      have c1 : (j : Int) < (C.length : Int) := by omega
      have c2 : (0 : Int) ≤ (j : Int) := by omega
      have c4 : rd_L5 (I2 C) (j : Int) = I (C[j]) := rdL_I2 C j hjl
      have c5 : (I ((C.take j).map List.length)).length < 17592186044416 := by rw [I_len, List.length_map, List.length_take]; omega
      have c6 : I ((C.take j).map List.length) ++ [((C[j].length : Nat) : Int)] = I ((C.take (j + 1)).map List.length) := by
        rw [I_snoc, ← List.take_append_getElem hjl, List.map_append]
        rfl
      have c3 := w64s j (by omega)
      refine ev_succ ?_
      simp only [impl_AnglesOf.l0, c1, c2, c3, c4, c5, c6, I2_len, I_len', if_true]
      exact ih (j + 1) (by omega)
  have key := H C.length 0 (Nat.zero_add _)
  rw [← I2_len C] at key
  exact key
def strL (s : List Nat × List Nat) : List Nat := ((angL s).filter (fun a => decide (1 < a))).map (fun a => a - 1)
theorem impl_strat {s : List Nat × List Nat} (hs : Sf s.1 s.2) : Ev (fun k => impl_StratumOf.f k (I s.1) (I s.2)) (I (strL s)) := by
  have h24 := cycles_len (p := arnd s.1 s.2) (by rw [arnd_len]; exact hs.le)
  rw [← angL_len] at h24
  have hle : ∀ x ∈ angL s, x ≤ 24 := fun x hx => ang_le hs x ((sortD_perm _).mem_iff.mp hx)
  unfold impl_StratumOf.f strL
  refine Ev.bind (impl_angles hs) ?_
  generalize angL s = C at h24 hle
  have H : ∀ d j : Nat, j + d = C.length → Ev (fun k => impl_StratumOf.l0 k (I (((C.take j).filter (fun a => decide (1 < a))).map (fun a => a - 1))) (I C) (C.length : Int) (j : Int)) (I ((C.filter (fun a => decide (1 < a))).map (fun a => a - 1))) := by
    intro d
    induction d with
    | zero =>
      intro j hj
      obtain rfl : j = C.length := by omega
      refine ev_succ ?_
      have c1 : ¬ ((C.length : Int) < (C.length : Int)) := by omega
      simp only [impl_StratumOf.l0, c1, if_false, List.take_length]
      exact Ev.now _
    | succ d ih =>
      intro j hj
      have hjl : j < C.length := by omega
      have hm := hle _ (g_mem hjl)
      have c1 : (j : Int) < (C.length : Int) := by omega
      have c2 : (0 : Int) ≤ (j : Int) := by omega
      have c5 : (I (((C.take j).filter (fun a => decide (1 < a))).map (fun a => a - 1))).length < 17592186044416 := by
        rw [I_len, List.length_map]
        have := List.length_filter_le (fun a => decide (1 < a)) (C.take j)
        rw [List.length_take] at this
        omega
      have c3 := w64s j (by omega)
      have e0 : C.take (j + 1) = C.take j ++ [g C j] := by rw [g_get hjl, List.take_append_getElem hjl]
      have key := ih (j + 1) (by omega)
      rw [e0, List.filter_append, List.map_append] at key
      refine ev_succ ?_
      by_cases h : 1 < g C j
      · have h' : ((g C j : Nat) : Int) > 1 := by omega
        have c6 : wrap64 (((g C j : Nat) : Int) - 1) = ((g C j - 1 : Nat) : Int) := by rw [w64 (by omega) (by omega)]; omega
        have e1 : ([g C j].filter (fun a => decide (1 < a))).map (fun a => a - 1) = [g C j - 1] := by simp [h]
        rw [e1] at key
        simp only [impl_StratumOf.l0, c1, c2, c3, c5, c6, rdI, I_len', I_snoc, h', if_true]
        exact key
      · have h' : ¬ ((g C j : Nat) : Int) > 1 := by omega
        have e1 : ([g C j].filter (fun a => decide (1 < a))).map (fun a => a - 1) = [] := by simp [h]
        rw [e1, List.append_nil] at key
        simp only [impl_StratumOf.l0, c1, c2, c3, rdI, I_len', h', if_true, if_false]
        exact key
  have key := H C.length 0 (Nat.zero_add _)
  rw [← I_len C] at key
  exact key
structure Alike (s t : List Nat × List Nat) : Prop where
  sf : Sf t.1 t.2
  len : t.1.length = s.1.length
  sym : symN t = symN s
  turn : ledN t (neg t) 0 = ledN s (neg s) 0
  ang : angL t = angL s
end Go.Proofs.Ytoijcallajegfaa.M
end
section
/- Rows whose elements' blocks are told by numbers. No conditions. -/
namespace Go.Proofs.Ytoijcallajegfaa.M
set_option linter.unusedVariables false
set_option linter.unusedSimpArgs false
open Go Go.RowKit Go.Proofs.YtoijcallajegfaaW.PrintWords.Kd Go.Proofs.YtoijcallajegfaaW.PrintWords Go.Proofs.YtoijcallajegfaaW.PrintLast Go.Proofs.YtoijcallajegfaaW.PrintMore Go.Proofs.Ytoijcallajegfaa.A
namespace TR
section
variable {α : Type} {d : Kd α} {f : Nat → Nat} {w W w1 : World} {ok ok' : Nat → Prop} {e base g : Nat} {u v : Value} {xs : List α} {n : Int}
def T (f : Nat → Nat) (d : Kd α) (e : Nat) (w : World) (base : Nat) (ok : Nat → Prop) (v : Value) (xs : List α) (n : Int) : Prop :=
  ∃ zs : List (α × Nat), zs.map (·.1) = xs ∧ (zs.map (·.2)).Nodup ∧ (∀ q ∈ zs, (q.2 : Int) < n) ∧ (Kd.tag f d).R e w base ok v zs
end
section
variable {α : Type} {f : Nat → Nat} {P : Program} {ops : Array Oper} {rest : List Oper} {o : Oper} {a : Act} {Q : Exit → Act → World → Prop}
end
end TR
end Go.Proofs.Ytoijcallajegfaa.M
end
section
/- The surfaces of a stratum: the program and the reference find the same ones. No conditions. -/
namespace Go.Proofs.Ytoijcallajegfaa.M
set_option linter.unusedVariables false
set_option linter.unusedSimpArgs false
open Go.RowKit Go.Proofs.YtoijcallajegfaaW.PrintWords Go.Proofs.YtoijcallajegfaaW.PrintLast Go.Proofs.YtoijcallajegfaaW.PrintMore Go.Proofs.Ytoijcallajegfaa.A
def tabN : Nat → List (List Nat × List Nat)
  | 1 => [([0], [0])]
  | 2 => [([0, 1], [1, 0]), ([1, 0], [0, 1]), ([1, 0], [1, 0])]
  | 3 => [([0, 1, 2], [1, 2, 0]), ([0, 2, 1], [1, 0, 2]), ([0, 2, 1], [1, 2, 0]), ([1, 2, 0], [0, 1, 2]), ([1, 2, 0], [0, 2, 1]), ([1, 2, 0], [1, 2, 0]), ([1, 2, 0], [2, 0, 1])]
  | 4 => [([0, 1, 2, 3], [1, 2, 3, 0]), ([0, 1, 3, 2], [1, 2, 0, 3]), ([0, 1, 3, 2], [1, 2, 3, 0]), ([0, 2, 1, 3], [1, 0, 3, 2]), ([0, 2, 1, 3], [1, 3, 0, 2]), ([0, 2, 3, 1], [1, 0, 2, 3]), ([0, 2, 3, 1], [1, 0, 3, 2]), ([0, 2, 3, 1], [1, 2, 0, 3]), ([0, 2, 3, 1], [1, 2, 3, 0]), ([0, 2, 3, 1], [1, 3, 0, 2]), ([0, 2, 3, 1], [1, 3, 2, 0]), ([1, 0, 3, 2], [0, 2, 1, 3]), ([1, 0, 3, 2], [0, 2, 3, 1]), ([1, 0, 3, 2], [1, 2, 3, 0]), ([1, 0, 3, 2], [2, 3, 0, 1]), ([1, 0, 3, 2], [2, 3, 1, 0]), ([1, 2, 3, 0], [0, 1, 2, 3]), ([1, 2, 3, 0], [0, 1, 3, 2]), ([1, 2, 3, 0], [0, 2, 3, 1]), ([1, 2, 3, 0], [0, 3, 1, 2]), ([1, 2, 3, 0], [0, 3, 2, 1]), ([1, 2, 3, 0], [1, 0, 3, 2]), ([1, 2, 3, 0], [1, 2, 3, 0]), ([1, 2, 3, 0], [1, 3, 0, 2]), ([1, 2, 3, 0], [2, 3, 0, 1]), ([1, 3, 0, 2], [2, 0, 3, 1])]
  | _ => []
theorem surf_tab3 : surfN 1 = tabN 1 ∧ surfN 2 = tabN 2 ∧ surfN 3 = tabN 3 := by decide +kernel
theorem surf_tab4 : surfN 4 = tabN 4 := by decide +kernel
theorem surf_tab {n : Nat} (h1 : 1 ≤ n) (h4 : n ≤ 4) : surfN n = tabN n := by
  rcases four_cases h1 h4 with rfl | rfl | rfl | rfl
  · exact surf_tab3.1
  · exact surf_tab3.2.1
  · exact surf_tab3.2.2
  · exact surf_tab4
theorem tab_ok : ∀ n : Fin 5, (tabN n.val).length ≤ 26 ∧ ∀ s ∈ tabN n.val, surfB (I s.1) (I s.2) = true := by decide +kernel
theorem tabN_ok {n : Nat} (h4 : n ≤ 4) : (tabN n).length ≤ 26 ∧ ∀ s ∈ tabN n, Sf s.1 s.2 := by
  obtain ⟨a, b⟩ := tab_ok ⟨n, by omega⟩
  exact ⟨a, fun s hs => surfB_I.1 (b s hs)⟩
end Go.Proofs.Ytoijcallajegfaa.M
end
section
/- Lists of lists of numbers sorted and struck of doubles: what lies in memory. No conditions. -/
namespace Go.Proofs.Ytoijcallajegfaa.M
set_option linter.unusedVariables false
set_option linter.unusedSimpArgs false
open Go Go.RowKit Go.Proofs.YtoijcallajegfaaW.PrintWords Go.Proofs.YtoijcallajegfaaW.PrintLast Go.Proofs.YtoijcallajegfaaW.PrintMore Go.Proofs.Ytoijcallajegfaa.A Go.Sort Go.Shelf Go.Lib Go.Proofs Go.Proofs.YtoijcallajegfaaW.PrintWords.Kd
def toL (x : List Int) : List Nat := x.map Int.toNat
def eqL (x y : List Int) : Bool := decide (toL x = toL y)
end Go.Proofs.Ytoijcallajegfaa.M
end
section
namespace Go.Proofs.Ytoijcallajegfaa.A
open Go.RowKit Go.Proofs.YtoijcallajegfaaW.PrintWords Go.Proofs.YtoijcallajegfaaW.PrintLast Go.Proofs.YtoijcallajegfaaW.PrintMore
attribute [local go_sem] max2_int min2_int max_two min_two max_three min_three max_four min_four
set_option linter.unusedVariables false
set_option linter.unusedSimpArgs false
def slices_CompactFunc_int_int.f (l0 : List (List Int)) : Option (List (List Int)) := if (∀ x ∈ l0, M.NN x) ∧ l0.length < 4611686018427387904 then some ((M.cpt (fun a b => decide (a = b)) ((l0.map M.toL).mergeSort (fun a b => decide (¬ M.lexC b a < 0)))).map (fun l : List Nat => l.map Int.ofNat)) else none
theorem slices_CompactFunc_int_int.eq (l xs' : List (List Int)) (hq : ∀ x ∈ l, M.NN x) (hp : xs'.Perm l) (hs : xs'.Pairwise (fun a b => ¬ M.lexC (M.toL b) (M.toL a) < 0)) : M.cpt M.eqL xs' = (M.cpt (fun a b => decide (a = b)) ((l.map M.toL).mergeSort (fun a b => decide (¬ M.lexC b a < 0)))).map (fun l : List Nat => l.map Int.ofNat) := by
  have h1 : xs'.map M.toL = (l.map M.toL).mergeSort (fun a b => decide (¬ M.lexC b a < 0)) := by
    refine List.Perm.eq_of_pairwise (le := fun a b => ¬ M.lexC b a < 0) ?_ (by rw [List.pairwise_map]; exact hs) ?_ ((hp.map _).trans (List.mergeSort_perm _ _).symm)
    · intro a b _ _ h1 h2
      have := M.lexC_neg a b
      exact (M.lexC_eq _ _).1 (by omega)
    · have := List.pairwise_mergeSort (le := fun a b => decide (¬ M.lexC b a < 0)) (fun a b c h1 h2 => decide_eq_true (M.lexC_le_tr c b a (of_decide_eq_true h2) (of_decide_eq_true h1))) (fun a b => by
        have := M.lexC_neg a b
        simp only [Bool.or_eq_true, decide_eq_true_eq]
        omega) (l.map M.toL)
      exact this.imp (fun h => of_decide_eq_true h)
  have h2 : (M.cpt M.eqL xs').map M.toL = M.cpt (fun a b => decide (a = b)) (xs'.map M.toL) := M.cpt_map M.toL (fun a b => decide (a = b)) xs'
  have h3 : ((M.cpt M.eqL xs').map M.toL).map (fun l : List Nat => l.map Int.ofNat) = M.cpt M.eqL xs' := by
    rw [List.map_map]
    conv => rhs; rw [← List.map_id (M.cpt M.eqL xs')]
    apply List.map_congr_left
    intro x hx
    exact M.NN_I (hq x (hp.mem_iff.1 ((M.cpt_sub M.eqL xs').subset hx)))
  rw [← h3, h2, h1]
theorem slices_CompactFunc_int_int.ok {l0 r : List (List Int)} (h : slices_CompactFunc_int_int.f l0 = some r) : ((∀ x ∈ l0, M.NN x) ∧ l0.length < 4611686018427387904) ∧ ∀ xs' : List (List Int), xs'.Perm l0 → xs'.Pairwise (fun a b => ¬ M.lexC (M.toL b) (M.toL a) < 0) → M.cpt M.eqL xs' = r := by
  unfold slices_CompactFunc_int_int.f at h
  split at h
  · rename_i hq
    obtain rfl := Option.some.inj h
    exact ⟨hq, fun xs' hp hs => slices_CompactFunc_int_int.eq l0 xs' hq.1 hp hs⟩
  · cases h
end Go.Proofs.Ytoijcallajegfaa.A
end
section
/- The strata: the program and the reference list them alike. No conditions. -/
namespace Go.Proofs.Ytoijcallajegfaa.M
set_option linter.unusedVariables false
set_option linter.unusedSimpArgs false
open Go.RowKit Go.Proofs.YtoijcallajegfaaW.PrintWords Go.Proofs.YtoijcallajegfaaW.PrintLast Go.Proofs.YtoijcallajegfaaW.PrintMore Go.Proofs.Ytoijcallajegfaa.A
def LUp (l : List (List Nat)) : Prop := l.Pairwise (fun a b => lexC a b < 0)
theorem LUp.nodup {l : List (List Nat)} (h : LUp l) : l.Nodup :=
  h.imp (fun {a b} hab e => by subst e; rw [(lexC_eq _ _).2 rfl] at hab; omega)
end Go.Proofs.Ytoijcallajegfaa.M
end
section
/- The lists hold together. No conditions. -/
namespace Go.Proofs.Ytoijcallajegfaa.M
set_option linter.unusedVariables false
set_option linter.unusedSimpArgs false
open Go.RowKit Go.Proofs.YtoijcallajegfaaW.PrintWords Go.Proofs.YtoijcallajegfaaW.PrintLast Go.Proofs.YtoijcallajegfaaW.PrintMore Go.Proofs.Ytoijcallajegfaa.A
theorem num_draw (b : List Int) (hb : b.length ≤ 1000000000) (n : Nat) (hn : n ≤ 1000) : ∃ x : Nat, x ≤ 65535 ∧ Ev (fun k => spec_MakeNum.f k b (n : Int)) (x : Int) := by
  obtain ⟨i, h, i0, i1, e⟩ := skip_draw b hb n hn
  obtain ⟨x, i2, h2, e2, x0, x1, j0, j1⟩ := byte_draw b i h i0 i1 hb
  obtain ⟨y, i3, h3, e3, y0, y1, _, _⟩ := byte_draw b i2 h2 j0 j1 hb
  have e4 : wrap64 (wrap64 (x * 256) + y) = (((x * 256 + y).toNat : Nat) : Int) := by
    rw [w64 (x := x * 256) (by omega) (by omega), w64 (by omega) (by omega)]
    omega
  refine ⟨(x * 256 + y).toNat, by omega, ?_⟩
  unfold spec_MakeNum.f
  refine Ev.bind e ?_
  simp only [e2, e3, Option.bind_some, e4]
  exact Ev.now _
theorem can_tab : ∀ n : Fin 5, ∀ s ∈ tabN n.val, canS s.1 s.2 = s := by decide +kernel
theorem dim_tab : ∀ i : Fin 12, ∃ n : Fin 5, 1 ≤ n.val ∧ rd ([1, 2, 3, 3, 2, 3, 3, 3, 3, 3, 3, 4] : List Int) (i.val : Int) = (n.val : Int) := by decide +kernel
end Go.Proofs.Ytoijcallajegfaa.M
end
section
/- Orbits of surfaces with few squares. No conditions. -/
namespace Go.Proofs.Ytoijcallajegfaa.M
set_option linter.unusedVariables false
set_option linter.unusedSimpArgs false
open Go.RowKit Go.Proofs.YtoijcallajegfaaW.PrintWords Go.Proofs.YtoijcallajegfaaW.PrintLast Go.Proofs.YtoijcallajegfaaW.PrintMore Go.Proofs.Ytoijcallajegfaa.A
def orbC (c : List Nat × List Nat) : Option PO := lpP 121 ⟨[c], [⟨#[]⟩], [-1], [0], [], []⟩ 0
def okO (n : Nat) (c : List Nat × List Nat) : Bool :=
  match orbC c with
  | none => false
  | some o => decide (o.L.length ≤ 26) && decide (o.L.Nodup) && decide (c ∈ o.L) && o.L.all (fun x => decide (x ∈ tabN n) && decide (nxt 84 x ∈ o.L) && decide (nxt 116 x ∈ o.L) && decide (nxt 83 x ∈ o.L) && decide (nxt 115 x ∈ o.L)) && (List.range o.L.length).all (fun i => wordB (atW o.W i) && decide (canS (rn (atW o.W i) c (atW o.W i).size).1 (rn (atW o.W i) c (atW o.W i).size).2 = atL o.L i))
theorem okO_tab3 : ∀ n : Fin 4, ∀ c ∈ tabN n.val, okO n.val c = true := by decide +kernel
theorem okO_tab4a : ∀ c ∈ (tabN 4).take 9, okO 4 c = true := by decide +kernel
theorem okO_tab4b : ∀ c ∈ ((tabN 4).drop 9).take 9, okO 4 c = true := by decide +kernel
theorem okO_tab4c : ∀ c ∈ ((tabN 4).drop 9).drop 9, okO 4 c = true := by decide +kernel
theorem okO_tab4 : ∀ c ∈ tabN 4, okO 4 c = true := by
  intro c hc
  rw [← List.take_append_drop 9 (tabN 4), List.mem_append] at hc
  rcases hc with hc | hc
  · exact okO_tab4a c hc
  · rw [← List.take_append_drop 9 ((tabN 4).drop 9), List.mem_append] at hc
    rcases hc with hc | hc
    · exact okO_tab4b c hc
    · exact okO_tab4c c hc
structure Orbt (n : Nat) (c : List Nat × List Nat) (o : PO) : Prop where
  eq : orbC c = some o
  le : o.L.length ≤ 26
  nd : o.L.Nodup
  self : c ∈ o.L
  tab : ∀ x ∈ o.L, x ∈ tabN n
  cl : ∀ x ∈ o.L, ∀ l : Int, nxt l x ∈ o.L
  wd : ∀ i, i < o.L.length → wordB (atW o.W i) = true ∧ canS (rn (atW o.W i) c (atW o.W i).size).1 (rn (atW o.W i) c (atW o.W i).size).2 = atL o.L i
theorem orbt_ok {n : Nat} (h4 : n ≤ 4) {c : List Nat × List Nat} (hc : c ∈ tabN n) : ∃ o, Orbt n c o := by
  have h : okO n c = true := by
    rcases Nat.lt_or_ge n 4 with h | h
    · exact okO_tab3 ⟨n, h⟩ c hc
    · obtain rfl : n = 4 := by omega
      exact okO_tab4 c hc
  unfold okO at h
  cases e : orbC c with
  | none => rw [e] at h; cases h
  | some o =>
    rw [e] at h
    simp only [Bool.and_eq_true, decide_eq_true_eq, List.all_eq_true, List.mem_range] at h
    obtain ⟨⟨⟨⟨h1, h2⟩, h3⟩, h5⟩, h6⟩ := h
    refine ⟨o, e, h1, h2, h3, fun x hx => (h5 x hx).1.1.1.1, ?_, h6⟩
    intro x hx l
    obtain ⟨⟨⟨⟨_, a1⟩, a2⟩, a3⟩, a4⟩ := h5 x hx
    unfold nxt lt at *
    by_cases l1 : l = 84
    · subst l1; exact a1
    · by_cases l2 : l = 116
      · subst l2; exact a2
      · by_cases l3 : l = 83
        · subst l3; exact a3
        · rw [if_neg l1, if_neg l2, if_neg l3]
          exact a4
end Go.Proofs.Ytoijcallajegfaa.M
end
section
/- Orbits of surfaces with few squares: what the program answers. No conditions. -/
namespace Go.Proofs.Ytoijcallajegfaa.M
set_option linter.unusedVariables false
set_option linter.unusedSimpArgs false
open Go.RowKit Go.Proofs.YtoijcallajegfaaW.PrintWords Go.Proofs.YtoijcallajegfaaW.PrintLast Go.Proofs.YtoijcallajegfaaW.PrintMore Go.Proofs.Ytoijcallajegfaa.A
theorem orbR_few {r u : List Nat} (hs : Sf r u) {o : PO} (h : orbC (canS r u) = some o) : orbR (I r) (I u) = some o := by
  rw [orbR_I (a := (r, u)) hs]
  exact h
end Go.Proofs.Ytoijcallajegfaa.M
end
section
/- The orbit as a list: the program and the reference agree. No conditions. -/
namespace Go.Proofs.Ytoijcallajegfaa.M
set_option linter.unusedSimpArgs false
open Go.RowKit Go.Proofs.YtoijcallajegfaaW.PrintWords Go.Proofs.YtoijcallajegfaaW.PrintLast Go.Proofs.YtoijcallajegfaaW.PrintMore Go.Proofs.Ytoijcallajegfaa.A
theorem implOrb_ev (r u : List Int) : Ev (fun k => impl_OrbitOf.f k r u) (outL (orbR r u)) := by
  unfold impl_OrbitOf.f
  refine Ev.bind (orbR_ev r u) ?_
  cases orbR r u with
  | none => exact Ev.now _
  | some s => exact Ev.now _
end Go.Proofs.Ytoijcallajegfaa.M
end
