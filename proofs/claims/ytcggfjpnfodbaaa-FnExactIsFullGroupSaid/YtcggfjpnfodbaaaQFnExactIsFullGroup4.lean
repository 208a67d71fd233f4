/- Lemmas for the row FnExactIsFullGroup: the program's functions told as plain functions, and plain mathematics. No conditions. -/
import Derived.Test.YtcggfjpnfodbaaaQFnExactIsFullGroup3
section
/- Finding the orbit: the program's walk. No conditions. -/
namespace Go.Proofs.Ytcggfjpnfodbaaa.M
set_option linter.unusedVariables false
set_option linter.unusedSimpArgs false
open Go Go.RowKit Go.Proofs.YtcggfjpnfodbaaaW.PrintWords Go.Proofs.YtcggfjpnfodbaaaW.PrintLast Go.Proofs.YtcggfjpnfodbaaaW.PrintMore Go.Proofs.Ytcggfjpnfodbaaa.A
def OrbPost (w w' : World) (e : Ending) : Option Orb → Prop
  | none => e = .returned (.tuple #[.pointer none, .bool false]) ∧ Below w.heap.size w w'
  | some s => ∃ gO gM n col vL vW vF vB vT vS, e = .returned (.tuple #[.pointer (some ⟨gO, 0, none⟩), .bool true]) ∧ OrbH w.heap.size col w' gO gM n vL vW vF vB vT vS s ∧ Below w.heap.size w w'
set_option maxHeartbeats 8000000 in
set_option maxRecDepth 100000 in
theorem orbit_no (k : Nat) (A0 : Option Addr) (c0 : Nat) (l0 : List Int) (A1 : Option Addr) (c1 : Nat) (l1 : List Int) (y1 y2 : List Int) (w : World) (h0 : Kd.C (Kd.int .i64) w A0 l0.length l0) (g0 : l0.length ≤ c0) (h1 : Kd.C (Kd.int .i64) w A1 l1.length l1) (g1 : l1.length ≤ c1) (h : impl_CanonOf.f k l0 l1 = some (y1, y2, false)) :
    Calls Try.prog 59 #[.agg #[.slice A0 l0.length c0, .slice A1 l1.length c1]] w fun e w' => OrbPost w w' e none := by
  have hu := Try.underlying25
  have H0 := Aside0.mk h0; have H1 := Aside0.mk h1; have G0 := Aside0.mk g0; have G1 := Aside0.mk g1; have HA := Aside0.mk h
  clear h0 h1 g0 g1 h
  have HB := Aside0.mk (Below.refl w.heap.size w)
  go_enter Try.func59, Try.ntmps59
  go_wp2_with (first | ((with_reducible refine gate_dst (N := 1) rfl ?_); refine bx_ 1 #[.slice A0 l0.length c0, .slice A1 l1.length c1] 25 ?_; intro gs hg w2 hbox hb; have BS := Aside0.mk hbox; replace HB := b1_ hb; clear hb hbox hg; obtain ⟨hcz0, hcz1, hfz0, hfz1⟩ := c2_ BS) | ((with_reducible refine gate_callee (f := 28) rfl ?_); refine gL_ (some 15) Try.func28 #[.agg #[.slice A0 l0.length c0, .slice A1 l1.length c1]] rfl qa_ ?_; (with_reducible refine (impl_CanonOf.calls k _ _ l0 _ _ l1 y1 y2 false _ (cb_ H0) G0.out (cb_ H1) G1.out HA.out).mono ?_); rintro e w3 ⟨v0, v1, rfl, ho0, ho1, hb⟩; refine ⟨_, rfl, ?_⟩; replace HB := b1_ hb; clear hb; obtain ⟨Ay0, cy0, ey0⟩ := Kd.R_slice ho0; subst ey0; obtain ⟨Ay1, cy1, ey1⟩ := Kd.R_slice ho1; subst ey1; clear ho0 ho1) | ((with_reducible refine gate_dst (N := 4) rfl ?_); refine bx_ 4 #[.slice none 0 0, .slice none 0 0] 25 ?_; intro gf hg w4 hbox hb; have GF := gw_ w hg; have BF := Aside0.mk hbox; replace HB := b1_ hb; clear hb hbox hg; obtain ⟨hcf0, hcf1, hff0, hff1⟩ := c2_ BF))
  go_ret2
  exact ⟨qb_, hB_⟩
section
variable {P : Program} {ops : Array Oper} {rest : List Oper} {o : Oper} {a : Act} {Q : Exit → Act → World → Prop}
theorem lit_event {W : World} (N : Tmp) (cs : Array Value) (e : TypeId) (n : Nat) (h : ∀ g, g = W.heap.size → ∀ w1, w1.heap[g]? = some (.cells cs e (0, 0)) → Below W.heap.size W w1 → wpList P ops Q rest (a.put o.dst (.slice (some ⟨g, 0, none⟩) n n)) w1) (hgd : o.guard = none := by rfl) (hd : o.dst = some N := by rfl)
    (hrun : (execOp a.eval o).run P W = .ok (.value (.slice (some ⟨W.heap.size, 0, none⟩) n n)) (W.alloc (.cells cs e (0, 0))) := by first | (go_simp; done) | (go_simp; rfl)) : wpList P ops Q (o :: rest) a W :=
  Kd.event_run hgd hrun (h _ rfl _ (blk_new W _) (below_alloc (Below.refl _ _) _))
theorem map_event {W : World} (N : Tmp) (h : ∀ g, g = W.heap.size → ∀ w1, w1.heap[g]? = some (.map #[] 0) → Below W.heap.size W w1 → wpList P ops Q rest (a.put o.dst (.map (some g))) w1) (hgd : o.guard = none := by rfl) (hd : o.dst = some N := by rfl)
    (hrun : (execOp a.eval o).run P W = .ok (.value (.map (some W.heap.size))) (W.alloc (.map #[] 0)) := by first | (go_simp; done) | (go_simp; rfl)) : wpList P ops Q (o :: rest) a W :=
  Kd.event_run hgd hrun (h _ rfl _ (blk_new W _) (below_alloc (Below.refl _ _) _))
end
theorem R_blk {α : Type} {enc : α → Value} {h1 : ∀ x : α, (enc x).oneCell' = true} {W : World} {g e base : Nat} {x : α} {ok : Nat → Prop} (hb : W.heap[g]? = some (.cells #[enc x] e (0, 0))) (hg : base ≤ g) (hok : ok g) : (Kd.scalar enc h1).R e W base ok (.slice (some ⟨g, 0, none⟩) 1 1) [x] :=
  ⟨fun k hk => by have : g = k := by simpa [Value.ownBlock] using hk
                  exact this ▸ hok, [enc x], ⟨rfl, .inr ⟨g, 1, #[enc x], rfl, hg, hb, Nat.le_refl _, by decide, rfl, rfl⟩⟩, Reps.one rfl (Reps.none _ _)⟩
theorem S_blk {W : World} {g base : Nat} {u0 u1 : Value} {x : S25} {ok : Nat → Prop} (hb : W.heap[g]? = some (.cells #[u0, u1] 25 (0, 0))) (hg : base ≤ g) (hok : ok g) (h0 : Kd.R (Kd.int .i64) 3 W base (fun k => ok k ∧ k ≠ g) u0 x.f0) (h1 : Kd.R (Kd.int .i64) 3 W base (fun k => ok k ∧ k ≠ g) u1 x.f1) (ne : NeRow u0 u1) : Kd.S k25 25 W base ok (.slice (some ⟨g, 0, none⟩) 1 1) [x] := by
  refine ⟨fun _ => 0, fun k hk => by
    have : g = k := by simpa [Value.ownBlock] using hk
    exact this ▸ hok, [u0, u1], ⟨rfl, .inr ⟨g, 1, #[u0, u1], rfl, hg, hb, Nat.le_refl _, by decide, rfl, rfl⟩⟩, Reps.c2 ?_ (Reps.none _ _)⟩
  exact k25_mkM _ _ _ x (Kd.R_mono h0 (fun k hk => ⟨⟨hk.1, by simpa [Value.ownBlock] using hk.2⟩, rfl⟩)) (Kd.R_mono h1 (fun k hk => ⟨⟨hk.1, by simpa [Value.ownBlock] using hk.2⟩, rfl⟩)) ne
def orb_T21 : Bool × List (List Nat × List Nat) := (true, [([], []), ([0], [0]), ([1], [1]), ([2], [2]), ([], []), ([], []), ([5], [5]), ([6], [6]), ([7], [7]), ([], []), ([8, 9], [8, 9]), ([], []), ([11], [11]), ([10, 12], [10, 12]), ([3, 4, 13, 13, 0, 1, 2, 3, 4, 5, 6, 7, 8, 9, 10, 11, 12, 13], [3, 4, 13])])
def orb_B21 : List Nat := [0, 1, 3, 7, 0, 0, 32, 96, 224, 0, 992, 0, 2048, 8160, 16383]
theorem orb_tab21 : rtab .any (opsOf Try.f59 21) = orb_T21 := by kernel_rfl
theorem orb_bits21 : waitsOk orb_T21.2 orb_B21 = true := by kernel_rfl
def orb_T17 : Bool × List (List Nat × List Nat) := (true, [([], []), ([], []), ([1], [1]), ([2], [2]), ([3], [3]), ([], []), ([5], [5]), ([4, 6], [4, 6]), ([0, 0, 1, 2, 3, 4, 5, 6, 7], [0]), ([8, 0, 1, 2, 3, 4, 5, 6, 7], [8]), ([9, 7, 7, 0, 1, 2, 3, 4, 5, 6, 7], [7, 9])])
def orb_B17 : List Nat := [0, 0, 2, 6, 14, 0, 32, 126, 255, 511, 1023]
theorem orb_tab17 : rtab .any (opsOf Try.f59 17) = orb_T17 := by kernel_rfl
theorem orb_bits17 : waitsOk orb_T17.2 orb_B17 = true := by kernel_rfl
def orb_T18 : Bool × List (List Nat × List Nat) := (true, [([], []), ([], []), ([1], [1]), ([2], [2]), ([3], [3]), ([], []), ([5], [5]), ([6], [6]), ([7], [7]), ([], []), ([8, 9], [8, 9]), ([10], [10]), ([], []), ([12], [12]), ([13], [13]), ([11, 14], [11, 14]), ([15], [15]), ([4, 16], [4, 16]), ([0, 0, 1, 2, 3, 4, 5, 6, 7, 8, 9, 10, 11, 12, 13, 14, 15, 16, 17], [0]), ([18, 0, 1, 2, 3, 4, 5, 6, 7, 8, 9, 10, 11, 12, 13, 14, 15, 16, 17], [18]), ([19, 17, 17, 0, 1, 2, 3, 4, 5, 6, 7, 8, 9, 10, 11, 12, 13, 14, 15, 16, 17], [17, 19])])
def orb_B18 : List Nat := [0, 0, 2, 6, 14, 0, 32, 96, 224, 0, 992, 2016, 0, 4096, 12288, 32736, 65504, 131070, 262143, 524287, 1048575]
theorem orb_tab18 : rtab .any (opsOf Try.f59 18) = orb_T18 := by kernel_rfl
theorem orb_bits18 : waitsOk orb_T18.2 orb_B18 = true := by kernel_rfl
set_option maxHeartbeats 8000000 in
set_option maxRecDepth 100000 in
theorem orbit_yes (k : Nat) (A0 : Option Addr) (c0 : Nat) (l0 : List Int) (A1 : Option Addr) (c1 : Nat) (l1 : List Int) (y1 y2 : List Int) (R : Option Orb) (w : World) (h0 : Kd.C (Kd.int .i64) w A0 l0.length l0) (g0 : l0.length ≤ c0) (h1 : Kd.C (Kd.int .i64) w A1 l1.length l1) (g1 : l1.length ≤ c1) (h : impl_CanonOf.f k l0 l1 = some (y1, y2, true)) (hl : loopO k ⟨[⟨y1, y2⟩], [⟨#[]⟩], [-1], [0], [], []⟩ 0 = some R) :
    Calls Try.prog 59 #[.agg #[.slice A0 l0.length c0, .slice A1 l1.length c1]] w fun e w' => OrbPost w w' e R := by
  have hu := Try.underlying25
  have H0 := Aside0.mk h0; have H1 := Aside0.mk h1; have G0 := Aside0.mk g0; have G1 := Aside0.mk g1; have HA := Aside0.mk h; have HL := Aside0.mk hl
  clear h0 h1 g0 g1 h hl
  have HB := Aside0.mk (Below.refl w.heap.size w)
  go_enter Try.func59, Try.ntmps59
  go_upto_region 4 with (first | ((with_reducible refine gate_dst (N := 1) rfl ?_); refine bx_ 1 #[.slice A0 l0.length c0, .slice A1 l1.length c1] 25 ?_; intro gs hg w2 hbox hb; have BS := Aside0.mk hbox; replace HB := b1_ hb; clear hb hbox hg; obtain ⟨hcz0, hcz1, hfz0, hfz1⟩ := c2_ BS) | ((with_reducible refine gate_callee (f := 28) rfl ?_); refine gL_ (some 15) Try.func28 #[.agg #[.slice A0 l0.length c0, .slice A1 l1.length c1]] rfl qa_ ?_; (with_reducible refine (impl_CanonOf.calls k _ _ l0 _ _ l1 y1 y2 true _ (cb_ H0) G0.out (cb_ H1) G1.out HA.out).mono ?_); rintro e w3 ⟨v0, v1, rfl, ho0, ho1, hb⟩; refine ⟨_, rfl, ?_⟩; have ZB := Aside0.mk (below_size hB_ : w.heap.size ≤ w2.heap.size); replace HB := b1_ hb; clear hb; obtain ⟨Ay0, cy0, ey0⟩ := Kd.R_slice ho0; subst ey0; obtain ⟨Ay1, cy1, ey1⟩ := Kd.R_slice ho1; subst ey1; have Y0 := Aside0.mk ho0; have Y1 := Aside0.mk ho1; clear ho0 ho1) | ((with_reducible refine gate_dst (N := 4) rfl ?_); refine bx_ 4 #[.slice none 0 0, .slice none 0 0] 25 ?_; intro gf hg w4 hbox hb; have GF := gw_ w hg; have GF2 := Aside0.mk (show w3.heap.size ≤ gf from Nat.le_of_eq hg.symm); have BF := Aside0.mk hbox; have B3 := Aside0.mk hb; replace HB := b1_ hb; clear hb hbox hg; obtain ⟨hcf0, hcf1, hff0, hff1⟩ := c2_ BF))
  obtain ⟨hbox, hkp, hB2⟩ := box_store BF.out (.slice Ay0 y1.length cy0) (.slice Ay1 y2.length cy1) HB.out GF.out
  generalize hw : ((w4.setCell ⟨gf, 0, none⟩ (.slice Ay0 y1.length cy0)).setCell ⟨gf, 1, none⟩ (.slice Ay1 y2.length cy1)) = w5 at hbox hkp hB2 ⊢
  clear hw hcf0 hcf1 hff0 hff1 hcz0 hcz1 hfz0 hfz1 HB
  have NE := Aside0.mk (show NeRow (.slice Ay0 y1.length cy0) (.slice Ay1 y2.length cy1) from fun k_ e1_ e2_ => (Y0.out.1 k_ e1_) e2_.symm)
  replace Y0 := Aside0.mk (Kd.R_kept (Kd.R_below (Kd.R_bound Y0.out) B3.out) hkp (fun k_ hk hs => by have h2 := hk.2.2.1; have h3 := GF2.out; omega))
  replace Y1 := Aside0.mk (Kd.R_kept (Kd.R_below (Kd.R_bound Y1.out) B3.out) hkp (fun k_ hk hs => by have h2 := hk.2.2.1; have h3 := GF2.out; omega))
  have HB := Aside0.mk hB2
  replace BF := Aside0.mk (show w5.heap[gf]? = some (.cells #[.slice Ay0 y1.length cy0, .slice Ay1 y2.length cy1] 25 (0, 0)) from hbox)
  have Z5 := Aside0.mk hkp.1
  have HB5 := HB
  clear hbox hkp hB2
  obtain ⟨hcf0, hcf1, hff0, hff1⟩ := c2_ BF
  replace Y0 := Aside0.mk (Kd.R_bound Y0.out)
  replace Y1 := Aside0.mk (Kd.R_bound Y1.out)
  go_wp2_with (first | ((with_reducible refine gate_dst (N := 21) rfl ?_); refine lit_event 21 #[.slice Ay0 y1.length cy0, .slice Ay1 y2.length cy1] 25 1 ?_; intro g1 hg w6 hbox hb; have Kg1 := Aside0.mk hbox; have Sg1 := Aside0.mk (show w5.heap.size ≤ g1 ∧ g1 < w6.heap.size from ⟨Nat.le_of_eq hg.symm, (Array.getElem?_eq_some_iff.1 hbox).1⟩); replace Y0 := Aside0.mk (Kd.R_below Y0.out hb); replace Y1 := Aside0.mk (Kd.R_below Y1.out hb); replace HB := b1_ hb; clear hb hbox hg) | ((with_reducible refine gate_dst (N := 22) rfl ?_); refine lit_event 22 #[.string ⟨#[]⟩] 9 1 ?_; intro g2 hg w7 hbox hb; have Kg2 := Aside0.mk hbox; have Sg2 := Aside0.mk (show w6.heap.size ≤ g2 ∧ g2 < w7.heap.size from ⟨Nat.le_of_eq hg.symm, (Array.getElem?_eq_some_iff.1 hbox).1⟩); replace Kg1 := bb_ Kg1 hb; replace Y0 := Aside0.mk (Kd.R_below Y0.out hb); replace Y1 := Aside0.mk (Kd.R_below Y1.out hb); replace HB := b1_ hb; clear hb hbox hg) | ((with_reducible refine gate_dst (N := 23) rfl ?_); refine lit_event 23 #[.int .i64 (-1)] 3 1 ?_; intro g3 hg w8 hbox hb; have Kg3 := Aside0.mk hbox; have Sg3 := Aside0.mk (show w7.heap.size ≤ g3 ∧ g3 < w8.heap.size from ⟨Nat.le_of_eq hg.symm, (Array.getElem?_eq_some_iff.1 hbox).1⟩); replace Kg1 := bb_ Kg1 hb; replace Kg2 := bb_ Kg2 hb; replace Y0 := Aside0.mk (Kd.R_below Y0.out hb); replace Y1 := Aside0.mk (Kd.R_below Y1.out hb); replace HB := b1_ hb; clear hb hbox hg) | ((with_reducible refine gate_dst (N := 24) rfl ?_); refine lit_event 24 #[.int .u8 0] 5 1 ?_; intro g4 hg w9 hbox hb; have Kg4 := Aside0.mk hbox; have Sg4 := Aside0.mk (show w8.heap.size ≤ g4 ∧ g4 < w9.heap.size from ⟨Nat.le_of_eq hg.symm, (Array.getElem?_eq_some_iff.1 hbox).1⟩); replace Kg1 := bb_ Kg1 hb; replace Kg2 := bb_ Kg2 hb; replace Kg3 := bb_ Kg3 hb; replace Y0 := Aside0.mk (Kd.R_below Y0.out hb); replace Y1 := Aside0.mk (Kd.R_below Y1.out hb); replace HB := b1_ hb; clear hb hbox hg) | ((with_reducible refine gate_dst (N := 25) rfl ?_); refine map_event 25 ?_; intro gM hg w10 hbox hb; have KgM := Aside0.mk hbox; have SgM := Aside0.mk (show w9.heap.size ≤ gM ∧ gM < w10.heap.size from ⟨Nat.le_of_eq hg.symm, (Array.getElem?_eq_some_iff.1 hbox).1⟩); replace Kg1 := bb_ Kg1 hb; replace Kg2 := bb_ Kg2 hb; replace Kg3 := bb_ Kg3 hb; replace Kg4 := bb_ Kg4 hb; replace Y0 := Aside0.mk (Kd.R_below Y0.out hb); replace Y1 := Aside0.mk (Kd.R_below Y1.out hb); replace HB := b1_ hb; clear hb hbox hg) | ((with_reducible refine gate_dst (N := 27) rfl ?_); refine bx_ 27 #[.slice (some ⟨g1, 0, none⟩) 1 1, .slice (some ⟨g2, 0, none⟩) 1 1, .slice (some ⟨g3, 0, none⟩) 1 1, .slice (some ⟨g4, 0, none⟩) 1 1, .map (some gM)] 69 ?_; intro gO hg w11 hbox hb; have KgO := Aside0.mk hbox; have SgO := Aside0.mk (show w10.heap.size ≤ gO ∧ gO < w11.heap.size from ⟨Nat.le_of_eq hg.symm, (Array.getElem?_eq_some_iff.1 hbox).1⟩); replace Kg1 := bb_ Kg1 hb; replace Kg2 := bb_ Kg2 hb; replace Kg3 := bb_ Kg3 hb; replace Kg4 := bb_ Kg4 hb; replace KgM := bb_ KgM hb; replace Y0 := Aside0.mk (Kd.R_below Y0.out hb); replace Y1 := Aside0.mk (Kd.R_below Y1.out hb); replace HB := b1_ hb; clear hb hbox hg))
  have HH : Aside0 (OrbH w.heap.size (fun k => if k = g2 then 1 else if k = g3 then 2 else if k = g4 then 3 else if k = gO then 6 else if k = gM then 7 else 0) w11 gO gM 0 (.slice (some ⟨g1, 0, none⟩) 1 1) (.slice (some ⟨g2, 0, none⟩) 1 1) (.slice (some ⟨g3, 0, none⟩) 1 1) (.slice (some ⟨g4, 0, none⟩) 1 1) (.slice none 0 0) (.slice none 0 0) ⟨[⟨y1, y2⟩], [⟨#[]⟩], [-1], [0], [], []⟩) := by
    have q1 := Sg1.out; have q2 := Sg2.out; have q3 := Sg3.out; have q4 := Sg4.out; have q5 := SgM.out; have q6 := SgO.out
    have z5 := Z5.out; have z2 := ZB.out; have zf := GF.out; have zg := GF2.out
    have bz : w.heap.size ≤ w5.heap.size := HB5.out.size
    refine ⟨⟨KgO.out, KgM.out, ?_, ?_, by omega, by omega, fun _ => rfl, fun _ => rfl, ?_, ?_, ?_, ?_, Kd.R_nil _ _ _ _ _, Kd.R_nil _ _ _ _ _⟩⟩
    · show (if gO = g2 then 1 else if gO = g3 then 2 else if gO = g4 then 3 else if gO = gO then 6 else if gO = gM then 7 else 0) = 6
      rw [if_neg (by omega), if_neg (by omega), if_neg (by omega), if_pos rfl]
    · show (if gM = g2 then 1 else if gM = g3 then 2 else if gM = g4 then 3 else if gM = gO then 6 else if gM = gM then 7 else 0) = 7
      rw [if_neg (by omega), if_neg (by omega), if_neg (by omega), if_neg (by omega), if_pos rfl]
    · refine S_blk (x := ⟨y1, y2⟩) Kg1.out (by omega) ?_ ?_ ?_ NE.out
      · show (if g1 = g2 then 1 else if g1 = g3 then 2 else if g1 = g4 then 3 else if g1 = gO then 6 else if g1 = gM then 7 else 0) = 0
        rw [if_neg (by omega), if_neg (by omega), if_neg (by omega), if_neg (by omega), if_neg (by omega)]
      · refine Kd.R_mono (Kd.R_lower Y0.out (by omega)) (fun k hk => ?_)
        have hk2 := hk.2.2.1
        show (if k = g2 then 1 else if k = g3 then 2 else if k = g4 then 3 else if k = gO then 6 else if k = gM then 7 else 0) = 0 ∧ k ≠ g1
        rw [if_neg (by omega), if_neg (by omega), if_neg (by omega), if_neg (by omega), if_neg (by omega)]
        exact ⟨rfl, by omega⟩
      · refine Kd.R_mono (Kd.R_lower Y1.out (by omega)) (fun k hk => ?_)
        have hk2 := hk.2.2.1
        show (if k = g2 then 1 else if k = g3 then 2 else if k = g4 then 3 else if k = gO then 6 else if k = gM then 7 else 0) = 0 ∧ k ≠ g1
        rw [if_neg (by omega), if_neg (by omega), if_neg (by omega), if_neg (by omega), if_neg (by omega)]
        exact ⟨rfl, by omega⟩
    · exact R_blk Kg2.out (by omega) (if_pos rfl)
    · refine R_blk Kg3.out (by omega) ?_
      show (if g3 = g2 then 1 else if g3 = g3 then 2 else if g3 = g4 then 3 else if g3 = gO then 6 else if g3 = gM then 7 else 0) = 2
      rw [if_neg (by omega), if_pos rfl]
    · refine R_blk Kg4.out (by omega) ?_
      show (if g4 = g2 then 1 else if g4 = g3 then 2 else if g4 = g4 then 3 else if g4 = gO then 6 else if g4 = gM then 7 else 0) = 3
      rw [if_neg (by omega), if_neg (by omega), if_pos rfl]
  clear Kg1 Kg2 Kg3 Kg4 KgM KgO Sg1 Sg2 Sg3 Sg4 SgM SgO Y0 Y1 NE BF GF GF2 Z5 ZB B3 BS H0 H1 G0 G1 HA hcf0 hcf1 hff0 hff1 HB5
  go_loopg [7] k (fun kq v7 w' => ∃ (x7 : Int) (n : Nat) (col : Nat → Nat) (vL vW vF vB vT vS : Value) (s : Orb), v7 = .int .i64 x7 ∧ Aside0 (loopO kq s x7 = some R) ∧ Aside0 (kq ≤ k) ∧ Aside0 (n = 0 ∨ n = 2) ∧ Aside0 (OrbH w.heap.size col w' gO gM n vL vW vF vB vT vS s) ∧ Aside0 (Below w.heap.size w w'))
  case atStart => exact ⟨0, 0, _, _, _, _, _, _, _, _, rfl, HL, ⟨Nat.le_refl _⟩, ⟨.inl rfl⟩, HH, HB⟩
  case round =>
    clear HL HH HB
    obtain ⟨x7, n, col, vL, vW, vF, vB, vT, vS, s, rfl, HA, HK, HN, HH, HB⟩ := hrel
    cases gk with
    | zero => exact absurd HA.out (by simp [loopO])
    | succ k1 =>
      have H := HA.out
      clear HA
      simp only [loopO] at H
      obtain ⟨AL, cL, eL⟩ := Kd.S_slice HH.out.hL
      subst eL
      have hco0 : wr.cell? ⟨gO, 0, none⟩ = some (.slice AL s.L.length cL) := (blk_cell HH.out.hO 0).trans rfl
      have hfo0 := blk_frozen HH.out.hO 0
      by_cases hq1 : x7 < (s.L.length : Int)
      · rw [if_pos hq1] at H
        have c1b := decide_eq_true hq1
        obtain ⟨z, AZ, H⟩ := bi_ H
        have HR := Aside0.mk H
        clear H
        obtain ⟨wo, hwo⟩ : ∃ wo : World, wo = wr := ⟨_, rfl⟩
        subst hwo
        go_wp2_with (first | ((with_reducible refine gate_dst (N := 37) rfl ?_); refine lit_event 37 #[.int .u8 84, .int .u8 83] 5 2 ?_; intro gl hg w12 hbox hb; have SL := Aside0.mk (show wo.heap.size ≤ gl from Nat.le_of_eq hg.symm); have BL := Aside0.mk hbox; have HH2 := Aside0.mk ((HH.out.recol (col' := fun k => if k = gl then 8 else col k) (fun k hk => if_neg (by have := SL.out; omega))).below hb); replace HB := b1_ hb; clear hb hbox hg))
        clear hco0 hfo0 c1b HH
        have SLG := SL
        go_loopg [39] 2 (fun gi v39 w' => ∃ (jj n' : Nat) (col' : Nat → Nat) (vL vW vF vB vT vS : Value) (s' : Orb), v39 = .int .i64 (jj : Int) ∧ Aside0 (jj ≤ 2) ∧ Aside0 (2 - jj ≤ gi) ∧ Aside0 (innerO k1 x7 (([84, 83] : List Int).drop jj) s' = some z) ∧ Aside0 ((jj = 0 → n' = 0 ∨ n' = 2) ∧ (jj = 1 → n' = 1 ∨ n' = 2) ∧ (jj = 2 → n' = 2)) ∧ Aside0 (col' gl = 8) ∧ Aside0 (w'.heap[gl]? = some (.cells #[.int .u8 84, .int .u8 83] 5 (0, 0))) ∧ Aside0 (OrbH w.heap.size col' w' gO gM n' vL vW vF vB vT vS s') ∧ Aside0 (Below w.heap.size w w'))
        case atStart => exact ⟨0, n, (fun k => if k = gl then 8 else col k), _, _, _, _, _, _, s, rfl, ⟨by omega⟩, ⟨by omega⟩, AZ, ⟨⟨fun _ => HN.out, fun e => absurd e (by decide), fun e => absurd e (by decide)⟩⟩, ⟨if_pos rfl⟩, BL, HH2, HB⟩
        case round =>
          clear AZ HH2 HB BL SL HN
          obtain ⟨jj, n', col', vL', vW', vF', vB', vT', vS', s', rfl, HJ, HG, AZ, HN, HC, BL, HH, HB⟩ := hrel
          have hj := HJ.out
          obtain ⟨AL', cL', eL'⟩ := Kd.S_slice HH.out.hL
          subst eL'
          have hcl0 : wr.cell? ⟨gl, 0, none⟩ = some (.int .u8 84) := (blk_cell BL.out 0).trans rfl
          have hcl1 : wr.cell? ⟨gl, 1, none⟩ = some (.int .u8 83) := (blk_cell BL.out 1).trans rfl
          have hfl0 := blk_frozen BL.out 0
          have hfl1 := blk_frozen BL.out 1
          have hco0 : wr.cell? ⟨gO, 0, none⟩ = some (.slice AL' s'.L.length cL') := (blk_cell HH.out.hO 0).trans rfl
          have hfo0 := blk_frozen HH.out.hO 0
          rcases Nat.lt_or_ge jj 2 with hj2 | hj2
          · have hq3 : jj = 0 ∨ jj = 1 := by omega
            rcases hq3 with rfl | rfl
            · skip
              have hn0 := Aside0.mk (HN.out.1 rfl)
              have H := AZ.out
              clear AZ
              change innerO k1 x7 (84 :: [83]) s' = some z at H
              simp only [innerO] at H
              obtain ⟨zz, AS, H⟩ := bi_ H
              have HT := Aside0.mk H
              have H := AS.out
              clear AS
              unfold stpO at H
              have hi0 := cp_ H
              replace H := ca_ H
              have hi1 := cp_ H
              replace H := ca_ H
              obtain ⟨⟨x1, x2⟩, AX, H⟩ := bi_ H
              obtain ⟨⟨y1', y2', yb⟩, AY, H⟩ := bi_ H
              obtain ⟨j, AJ, H⟩ := bi_ H
              dsimp only at H AY AJ
              have HS := Aside0.mk H
              clear H
              obtain ⟨adx, Ax0, cx0, Ax1, cx1, ex, hx0, hx1, hlx0, hix0, hlx1, hix1⟩ := at_T25 (Kd.S_reads' HH.out.hL).2.2 x7 hi0 hi1
              cases ex
              have X0 := Aside0.mk hix0; have X1 := Aside0.mk hix1; have LX0 := Aside0.mk hlx0; have LX1 := Aside0.mk hlx1
              clear hix0 hix1 hlx0 hlx1
              have ti0 := eq_true hi0
              have ti1 := eq_true hi1
              have td1 := decide_eq_true hi1
              go_upto_region 12 with (first | ((with_reducible refine gate_callee (f := 63) rfl ?_); refine gL_ (some 52) Try.func63 #[.agg #[.slice Ax0 (rd_T25 s'.L x7).f0.length cx0, .slice Ax1 (rd_T25 s'.L x7).f1.length cx1], .int .u8 84] rfl qa_ ?_; (with_reducible refine (impl_letterSurface.calls k1 _ _ (rd_T25 s'.L x7).f0 _ _ (rd_T25 s'.L x7).f1 84 x1 x2 _ X0.out LX0.out X1.out LX1.out AX.out).mono ?_); rintro e w13 ⟨v0, v1, rfl, ho0, ho1, hb⟩; refine ⟨_, rfl, ?_⟩; replace HH := Aside0.mk (HH.out.below hb); replace BL := bb_ BL hb; replace HB := b1_ hb; clear hb; obtain ⟨Al0, cl0, el0⟩ := Kd.R_slice ho0; subst el0; obtain ⟨Al1, cl1, el1⟩ := Kd.R_slice ho1; subst el1; have LT0 := Aside0.mk (Kd.R_reads' ho0).2; have LT1 := Aside0.mk (Kd.R_reads' ho1).2; clear ho0 ho1) | ((with_reducible refine gate_callee (f := 28) rfl ?_); refine gL_ (some 53) Try.func28 #[.agg #[.slice Al0 x1.length cl0, .slice Al1 x2.length cl1]] rfl qa_ ?_; (with_reducible refine (impl_CanonOf.calls k1 _ _ x1 _ _ x2 y1' y2' yb _ LT0.out.2 LT0.out.1 LT1.out.2 LT1.out.1 AY.out).mono ?_); rintro e w14 ⟨v0, v1, rfl, ho0, ho1, hb⟩; refine ⟨_, rfl, ?_⟩; have ZC := Aside0.mk (below_size hB_ : w.heap.size ≤ w13.heap.size); have ZD := Aside0.mk hb.size; have SL13 := Aside0.mk (Kd.S_below (Kd.S_mono (ok' := fun k_ => col' k_ = 0 ∧ k_ < w13.heap.size) (Kd.S_bound HH.out.hL) (fun k_ hk_ => ⟨hk_.1, hk_.2.2.1⟩)) hb); replace HH := Aside0.mk ((HH.out.recol (col' := rcl w13.heap.size col' 0) (fun k hk => rcl_old hk)).below hb); replace HC := Aside0.mk ((rcl_old (blk_lt BL.out)).trans HC.out : rcl w13.heap.size col' 0 gl = 8); replace BL := bb_ BL hb; replace HB := b1_ hb; clear hb; obtain ⟨Ay0, cy0, ey0⟩ := Kd.R_slice ho0; subst ey0; obtain ⟨Ay1, cy1, ey1⟩ := Kd.R_slice ho1; subst ey1; have Y0 := Aside0.mk ho0; have Y1 := Aside0.mk ho1; clear ho0 ho1) | ((with_reducible refine gate_dst (N := 10) rfl ?_); refine bx_ 10 #[.slice none 0 0, .slice none 0 0] 25 ?_; intro gx hg w15 hbox hb; have GX := Aside0.mk (show w14.heap.size ≤ gx from Nat.le_of_eq hg.symm); have BX := Aside0.mk hbox; have B3 := Aside0.mk hb; clear hb hbox hg; obtain ⟨hcf0, hcf1, hff0, hff1⟩ := c2_ BX))
              obtain ⟨hbox, hkp, hB2⟩ := box_store (w0 := w14) BX.out (.slice Ay0 y1'.length cy0) (.slice Ay1 y2'.length cy1) B3.out GX.out
              generalize hw : ((w15.setCell ⟨gx, 0, none⟩ (.slice Ay0 y1'.length cy0)).setCell ⟨gx, 1, none⟩ (.slice Ay1 y2'.length cy1)) = w16 at hbox hkp hB2 ⊢
              clear hw hcf0 hcf1 hff0 hff1 hcl0 hcl1 hfl0 hfl1 hco0 hfo0 hx0 hx1 X0 X1 LX0 LX1 LT0 LT1
              have NE := Aside0.mk (show NeRow (.slice Ay0 y1'.length cy0) (.slice Ay1 y2'.length cy1) from fun k_ e1_ e2_ => (Y0.out.1 k_ e1_) e2_.symm)
              replace HH := Aside0.mk (HH.out.below hB2)
              replace BL := Aside0.mk (blk_below BL.out hB2)
              replace Y0 := Aside0.mk (Kd.R_below (Kd.R_bound Y0.out) hB2)
              replace Y1 := Aside0.mk (Kd.R_below (Kd.R_bound Y1.out) hB2)
              replace SL13 := Aside0.mk (Kd.S_below SL13.out hB2)
              replace HB := Aside0.mk (below_step HB.out hB2)
              replace BX := Aside0.mk (show w16.heap[gx]? = some (.cells #[.slice Ay0 y1'.length cy0, .slice Ay1 y2'.length cy1] 25 (0, 0)) from hbox)
              have ZE := Aside0.mk hB2.size
              clear hbox hkp hB2 B3
              obtain ⟨hcx0, hcx1, hfx0, hfx1⟩ := c2_ BX
              have hLr := (Kd.S_reads' HH.out.hL).2
              have RL := Aside0.mk hLr
              clear hLr
              go_upto_region 13 with (first | ((with_reducible refine gate_callee (f := 72) rfl ?_); refine gL_ (some 58) Try.func72 #[.pointer (some ⟨gO, 0, none⟩), .agg #[.slice Ay0 y1'.length cy0, .slice Ay1 y2'.length cy1]] rfl qa_ ?_; (with_reducible refine (index_calls k1 gO _ _ s'.L _ _ _ _ _ _ y1' _ _ y2' j _ RL.out.2 RL.out.1 (Kd.R_reads' Y0.out).2.2 (Kd.R_reads' Y0.out).2.1 (Kd.R_reads' Y1.out).2.2 (Kd.R_reads' Y1.out).2.1 HH.out.hO AJ.out).mono ?_); rintro e w17 ⟨rfl, hb⟩; refine ⟨_, rfl, ?_⟩; have ZF := Aside0.mk hb.size; replace HH := Aside0.mk (HH.out.below hb); replace BL := bb_ BL hb; replace BX := bb_ BX hb; replace Y0 := Aside0.mk (Kd.R_below Y0.out hb); replace Y1 := Aside0.mk (Kd.R_below Y1.out hb); replace SL13 := Aside0.mk (Kd.S_below SL13.out hb); replace HB := b1_ hb; clear hb))
              clear hcx0 hcx1 hfx0 hfx1 RL
              have ZW := Aside0.mk (show w13.heap.size ≤ w17.heap.size from Nat.le_trans ZD.out (Nat.le_trans ZE.out ZF.out))
              clear ZD ZE ZF
              by_cases hj0 : j < 0
              · have H := HS.out
                clear HS
                rw [if_pos hj0] at H
                have hjb := decide_eq_true hj0
                have hco0 : w17.cell? ⟨gO, 0, none⟩ = some (.slice (some adx) s'.L.length cL') := (blk_cell HH.out.hO 0).trans rfl
                have hfo0 := blk_frozen HH.out.hO 0
                by_cases hq5 : (s'.L.length : Int) = 120
                · rw [if_pos hq5] at H
                  obtain rfl := Option.some.inj H
                  clear H
                  have hzn : z = none := (Option.some.inj HT.out).symm
                  subst hzn
                  have hRn : R = none := (Option.some.inj HR.out).symm
                  subst hRn
                  have e5b : ((s'.L.length : Int) == 120) = true := beq_iff_eq.mpr hq5
                  clear hq5
                  go_wp2
                  go_ret2
                  exact ⟨qb_, hB_⟩
                · rw [if_neg hq5] at H
                  have e5b : ((s'.L.length : Int) == 120) = false := beq_eq_false_iff_ne.mpr hq5
                  clear hq5
                  have hlen := cp_ H
                  replace H := ca_ H
                  have hiW := cp_ H
                  replace H := ca_ H
                  have hsz := cp_ H
                  replace H := Option.some.inj (ca_ H)
                  subst H
                  rw [if_pos rfl, if_pos rfl] at HT
                  have LN := Aside0.mk hlen
                  have LS := Aside0.mk hsz
                  clear hlen hsz
                  go_upto_region 17 with (fail)
                  clear hco0 hfo0 e5b
                  replace HH := Aside0.mk (HH.out.below (below_drew1 (Below.refl _ _)))
                  replace BL := Aside0.mk (blk_drew BL.out)
                  replace BX := Aside0.mk (blk_drew BX.out)
                  replace HB := Aside0.mk (below_drew1 HB.out)
                  replace Y0 := Aside0.mk (Kd.R_bound (Kd.R_drew Y0.out))
                  replace Y1 := Aside0.mk (Kd.R_bound (Kd.R_drew Y1.out))
                  replace SL13 := Aside0.mk (Kd.S_drew SL13.out)
                  replace ZW := Aside0.mk (show w13.heap.size ≤ w17.drew.heap.size from ZW.out)
                  refine start_ (n := 11) (S := fun w' => w'.cell? ⟨gO, 0, none⟩ = some (.slice (some adx) s'.L.length cL') ∧ w'.cell? ⟨gx, 0, none⟩ = some (.slice Ay0 y1'.length cy0) ∧ w'.cell? ⟨gx, 1, none⟩ = some (.slice Ay1 y2'.length cy1)) (ds := [7, 10]) (bl_ 11 0) (by kernel_rfl) rfl (by kernel_rfl) ⟨(blk_cell HH.out.hO 0).trans rfl, (blk_cell BX.out 0).trans rfl, (blk_cell BX.out 1).trans rfl⟩ (fun hHeld => ?_)
                  refine with_tabW orb_tab17 orb_bits17 (fun HT_ HW_ => ?_)
                  generalize w17.drew = wa at HH BL BX HB Y0 Y1 SL13 ZW hHeld ⊢
                  refine pu_ 0 (some 68) (bl_ 11 1) HT_ ?_
                  refine pu_ 1 (some 69) (bl_ 11 3) HT_ ?_
                  refine pu_ 2 (some 70) (bl_ 11 7) HT_ ?_
                  refine pu_ 3 (some 71) (bl_ 11 15) HT_ ?_
                  refine ta_ 4 (some 72) (bl_ 11 31) HT_ HW_ hHeld ?_
                  refine ta_ 5 (some 73) (bl_ 11 63) HT_ HW_ hHeld ?_
                  refine on_ 6 (some 74) (bl_ 11 127) HT_ (fun K hK => ?_)
                  refine value_ (w1 := ?_) (v := ?_) (by rfl) rfl ?_ ?_
                  rotate_left 2
                  · go_simp
                    constructor
                    · rfl
                    · rfl
                  refine hK.out _ _ ⟨((below_alloc (Below.refl _ _) _).cell (World.block_lt_of_cell? _ _ hHeld.1)).trans hHeld.1, ((below_alloc (Below.refl _ _) _).cell (World.block_lt_of_cell? _ _ hHeld.2.1)).trans hHeld.2.1, ((below_alloc (Below.refl _ _) _).cell (World.block_lt_of_cell? _ _ hHeld.2.2)).trans hHeld.2.2⟩ (fun hHeld => ?_)
                  clear hK K
                  refine no_ (some 74) ?_
                  refine last_ (i := 7) (N := some 75) (bl_ 11 255) rfl rfl (one_of HT_.out (by kernel_rfl)) (by decide) (fun K hK => ?_)
                  refine Kd.S_append_step k25 (w0 := w) w.heap.size (by rfl) (.tmp 72) (.tmp 74) 36 25 (.agg #[(.slice none 0 0), (.slice none 0 0)]) 48 rfl Try.underlying36 info25 rfl (by decide) (by omega) (.slice (some adx) s'.L.length cL') s'.L (⟨y1', y2'⟩ : S25) [.slice Ay0 y1'.length cy0, .slice Ay1 y2'.length cy1] (fun k_ => rcl wa.heap.size (rcl w13.heap.size col' 0) 0 k_ = 0) (fun k_ => w13.heap.size ≤ k_ ∧ k_ < wa.heap.size) rfl rfl ?aP ?aQ (fun k_ hk => rcl_new hk) ?aO HB.out HB.out.size (by have := LN.out; omega) ?_
                  case aP => exact k25_mkM _ _ _ (⟨y1', y2'⟩ : S25) (Kd.R_mono (Kd.R_lower Y0.out ZC.out) (fun k_ hk => ⟨hk.2.1, hk.2.2.1⟩)) (Kd.R_mono (Kd.R_lower Y1.out ZC.out) (fun k_ hk => ⟨hk.2.1, hk.2.2.1⟩)) NE.out
                  case aQ => exact fun k_ hk => ⟨(rcl_old hk.2).trans (rcl_new hk.1), fun e => by have := ((Kd.S_R SL13.out).1 k_ e.symm).2; have := hk.1; omega⟩
                  case aO => exact Kd.S_mono SL13.out (fun k_ hk => ⟨(rcl_old (Nat.lt_of_lt_of_le hk.2 ZW.out)).trans ((rcl_old hk.2).trans hk.1), fun h_ => by have := hk.2; have := h_.1; omega⟩)
                  intro v1 wb ho hb hg hat
                  obtain ⟨An1, cn1, en1⟩ := Kd.S_slice ho
                  subst en1
                  have HO19 := (B_gr HH.out.hO HH.out.cO hg (Kd.S_R HH.out.hL).1 (by decide)).1
                  have HC3 := Aside0.mk (B_gr BL.out HC.out hg (Kd.S_R HH.out.hL).1 (by decide))
                  have HP := HH.out.putL hg ho
                  have HB2 := Aside0.mk hb
                  refine hK.out _ _ ?_
                  clear hK K ho hb hg hat SL13 Y0 Y1 BX NE GX
                  refine no_ (some 75) ?_
                  refine pu_ 8 (some 76) (bl_ 11 511) HT_ ?_
                  refine pu_ 9 (some 77) (bl_ 11 1023) HT_ ?_
                  refine last_ (i := 10) (N := none) (bl_ 11 2047) rfl rfl (one_of HT_.out (by kernel_rfl)) (by decide) (fun K hK => ?_)
                  have hs19 : wb.cell? ⟨gO, 0, none⟩ = some (.slice (some adx) s'.L.length cL') := (blk_cell HO19 0).trans rfl
                  have hf19 := blk_frozen HO19 0
                  refine skip_ (w1 := wb.setCell ⟨gO, 0, none⟩ (.slice An1 (s'.L ++ [(⟨y1', y2'⟩ : S25)]).length cn1)) (by rfl) rfl ?_ ?_
                  · go_simp
                  refine hK.out _ _ ?_
                  clear hK K hs19 hf19
                  refine done_ (done_of HT_.out (by kernel_rfl)) ?_
                  have hne_ : gl ≠ gO := fun e => by have a1 := HC3.out.2; have a2 := HP.cO; rw [e] at a1; omega
                  have HB3 := Aside0.mk (below_set (g := gO) (j := 0) (v := (.slice An1 (s'.L ++ [(⟨y1', y2'⟩ : S25)]).length cn1)) HB2.out HP.bO)
                  have BL2 := Aside0.mk (put_far HC3.out.1 hne_ 0 (.slice An1 (s'.L ++ [(⟨y1', y2'⟩ : S25)]).length cn1))
                  have HCN := HC3.out.2
                  clear HH BL HB HC HC3 HB2 HO19
                  generalize hwc : wb.setCell ⟨gO, 0, none⟩ (.slice An1 (s'.L ++ [(⟨y1', y2'⟩ : S25)]).length cn1) = wc at HP HB3 BL2 ⊢
                  clear hwc
                  obtain ⟨colwc, hh_, hc_⟩ : ∃ c_, OrbH w.heap.size c_ wc gO gM n' _ _ _ _ _ _ _ ∧ c_ gl = 8 := ⟨_, HP, HCN⟩
                  have HH := Aside0.mk hh_; have HC := Aside0.mk hc_; have BL := BL2; have HB := HB3
                  clear hh_ hc_ BL2 HB3 HP HCN hne_
                  obtain ⟨AW, cW, eW⟩ := Kd.R_slice HH.out.hW
                  subst eW
                  go_upto_region 18 with (fail)
                  replace HH := Aside0.mk (HH.out.below (below_drew1 (Below.refl _ _)))
                  replace BL := Aside0.mk (blk_drew BL.out)
                  replace HB := Aside0.mk (below_drew1 HB.out)
                  obtain ⟨adw, ew, hxw⟩ := Kd.at_string (Kd.R_reads' HH.out.hW).2.2 x7 hi0 hiW
                  cases ew
                  have tw1 := eq_true hiW
                  have tw2 := decide_eq_true hiW
                  refine start_ (n := 21) (S := fun w' => w'.cell? ⟨gO, 1, none⟩ = some (.slice (some adw) s'.W.length cW) ∧ w'.cell? (adw.add (x7).toNat) = some (.string (rdOf ByteArray.empty s'.W x7))) (ds := [17, 20]) (bl_ 21 0) (by kernel_rfl) rfl (by kernel_rfl) ⟨(blk_cell HH.out.hO 1).trans rfl, hxw⟩ (fun hHeld => ?_)
                  refine with_tabW orb_tab18 orb_bits18 (fun HT_ HW_ => ?_)
                  clear hxw
                  generalize wc.drew = wd at HH BL HB hHeld ⊢
                  refine pu_ 0 (some 78) (bl_ 21 1) HT_ ?_
                  refine pu_ 1 (some 79) (bl_ 21 3) HT_ ?_
                  refine pu_ 2 (some 80) (bl_ 21 7) HT_ ?_
                  refine pu_ 3 (some 81) (bl_ 21 15) HT_ ?_
                  refine ta_ 4 (some 82) (bl_ 21 31) HT_ HW_ hHeld ?_
                  refine pu_ 5 (some 83) (bl_ 21 63) HT_ ?_
                  refine pu_ 6 (some 84) (bl_ 21 127) HT_ ?_
                  refine pu_ 7 (some 85) (bl_ 21 255) HT_ ?_
                  refine ta_ 8 (some 86) (bl_ 21 511) HT_ HW_ hHeld ?_
                  refine pu_ 9 (some 87) (bl_ 21 1023) HT_ ?_
                  refine pu_ 10 (some 88) (bl_ 21 2047) HT_ ?_
                  refine ta_ 11 (some 89) (bl_ 21 4095) HT_ HW_ hHeld ?_
                  refine pu_ 12 (some 90) (bl_ 21 8191) HT_ ?_
                  refine on_ 13 (some 91) (bl_ 21 16383) HT_ (fun K hK => ?_)
                  refine Kd.R_lit_step (Kd.int .u8) _ 5 ?hg (N := 91) ?hd (xs := ([84] : List Int)) (inner := [.int .u8 84]) (ok := fun _ => True) (okp := fun _ => True) ?hr ?hp (fun _ hk => hk) trivial (Below.refl _ _) (Nat.le_refl _) (by simp) ?_; (case hd => rfl); (case hg => rfl); (case hr => first | (go_simp; done) | (go_simp; rfl)); (case hp => exact (Reps.one (show Kd.M (Kd.int .u8) _ _ _ 84 [.int .u8 84] from rfl) (Reps.none _ _)))
                  intro vq we hoq hb hg_ hnew_
                  have hS1_ := (hb.cell (World.block_lt_of_cell? _ _ hHeld.1)).trans hHeld.1
                  have hS2_ := (hb.cell (World.block_lt_of_cell? _ _ hHeld.2)).trans hHeld.2
                  replace HH := Aside0.mk (HH.out.below hb)
                  replace BL := bb_ BL hb
                  replace HB := b1_ hb
                  have HOq := Aside0.mk hoq
                  clear hg_ hnew_ hb hoq
                  refine hK.out _ _ ⟨hS1_, hS2_⟩ (fun hHeld => ?_)
                  clear hK K hS1_ hS2_
                  refine no_ (some 91) ?_
                  refine on_ 14 (some 92) (bl_ 21 32767) HT_ (fun K hK => ?_)
                  have hcv47 := own_string (P := Try.prog) Try.underlying22 Try.underlying5 Try.underlying9 (Kd.own_of_R HOq.out)
                  refine value_ (w1 := ?_) (v := ?_) (by rfl) rfl ?_ ?_
                  rotate_left 2
                  · go_simp
                    constructor
                    · rfl
                    · rfl
                  clear hcv47 HOq
                  refine hK.out _ _ hHeld (fun hHeld => ?_)
                  clear hK K
                  refine no_ (some 92) ?_
                  have hs1_ : (strOfNums [(84 : Int)]).size = 1 := by decide +kernel
                  have tw3 : (9223372036854775807 < (rdOf ByteArray.empty s'.W x7).size + (strOfNums [(84 : Int)]).size) = False := eq_false (by rw [hs1_]; have := LS.out; omega)
                  clear hs1_
                  refine pu_ 15 (some 93) (bl_ 21 65535) HT_ ?_
                  clear tw3
                  refine on_ 16 (some 94) (bl_ 21 131071) HT_ (fun K hK => ?_)
                  refine value_ (w1 := ?_) (v := ?_) (by rfl) rfl ?_ ?_
                  rotate_left 2
                  · go_simp
                    constructor
                    · rfl
                    · rfl
                  refine hK.out _ _ ⟨((below_alloc (Below.refl _ _) _).cell (World.block_lt_of_cell? _ _ hHeld.1)).trans hHeld.1, ((below_alloc (Below.refl _ _) _).cell (World.block_lt_of_cell? _ _ hHeld.2)).trans hHeld.2⟩ (fun hHeld => ?_)
                  clear hK K
                  refine no_ (some 94) ?_
                  refine last_ (i := 17) (N := some 95) (bl_ 21 262143) rfl rfl (one_of HT_.out (by kernel_rfl)) (by decide) (fun K hK => ?_)
                  refine Kd.R_append_step Kd.string (w0 := w) w.heap.size (by rfl) (.tmp 82) (.tmp 94) 53 9 (.string ⟨#[]⟩) 16 rfl Try.underlying53 info9 rfl (by decide) (by omega) (.slice (some adw) s'.W.length cW) s'.W ((rdOf ByteArray.empty s'.W x7) ++ (strOfNums [84])) [.string ((rdOf ByteArray.empty s'.W x7) ++ (strOfNums [84]))] (fun k_ => rcl we.heap.size colwc 1 k_ = 1) (fun _ => False) rfl rfl rfl (fun _ hk => hk.elim) (fun k_ hk => rcl_new hk) (R_col HH.out.hW (fun k_ hk => rcl_old hk)) HB.out HB.out.size (by have := LN.out; omega) ?_
                  intro v2 wf ho hb hg hat
                  obtain ⟨An2, cn2, en2⟩ := Kd.R_slice ho
                  subst en2
                  have HO19 := (B_gr HH.out.hO HH.out.cO hg HH.out.hW.1 (by decide)).1
                  have HC3 := Aside0.mk (B_gr BL.out HC.out hg HH.out.hW.1 (by decide))
                  have HP := HH.out.putW hg ho
                  have HB2 := Aside0.mk hb
                  refine hK.out _ _ ?_
                  clear hK K ho hb hg hat
                  refine no_ (some 95) ?_
                  refine pu_ 18 (some 96) (bl_ 21 524287) HT_ ?_
                  refine pu_ 19 (some 97) (bl_ 21 1048575) HT_ ?_
                  refine last_ (i := 20) (N := none) (bl_ 21 2097151) rfl rfl (one_of HT_.out (by kernel_rfl)) (by decide) (fun K hK => ?_)
                  have hs19 : wf.cell? ⟨gO, 1, none⟩ = some (.slice (some adw) s'.W.length cW) := (blk_cell HO19 1).trans rfl
                  have hf19 := blk_frozen HO19 1
                  refine skip_ (w1 := wf.setCell ⟨gO, 1, none⟩ (.slice An2 (s'.W ++ [(rdOf ByteArray.empty s'.W x7) ++ (strOfNums [84])]).length cn2)) (by rfl) rfl ?_ ?_
                  · go_simp
                  refine hK.out _ _ ?_
                  clear hK K hs19 hf19
                  refine done_ (done_of HT_.out (by kernel_rfl)) ?_
                  have hne_ : gl ≠ gO := fun e => by have a1 := HC3.out.2; have a2 := HP.cO; rw [e] at a1; omega
                  have HB3 := Aside0.mk (below_set (g := gO) (j := 1) (v := (.slice An2 (s'.W ++ [(rdOf ByteArray.empty s'.W x7) ++ (strOfNums [84])]).length cn2)) HB2.out HP.bO)
                  have BL2 := Aside0.mk (put_far HC3.out.1 hne_ 1 (.slice An2 (s'.W ++ [(rdOf ByteArray.empty s'.W x7) ++ (strOfNums [84])]).length cn2))
                  have HCN := HC3.out.2
                  clear HH BL HB HC HC3 HB2 HO19
                  generalize hwc : wf.setCell ⟨gO, 1, none⟩ (.slice An2 (s'.W ++ [(rdOf ByteArray.empty s'.W x7) ++ (strOfNums [84])]).length cn2) = wg at HP HB3 BL2 ⊢
                  clear hwc
                  obtain ⟨colwg, hh_, hc_⟩ : ∃ c_, OrbH w.heap.size c_ wg gO gM n' _ _ _ _ _ _ _ ∧ c_ gl = 8 := ⟨_, HP, HCN⟩
                  have HH := Aside0.mk hh_; have HC := Aside0.mk hc_; have BL := BL2; have HB := HB3
                  clear hh_ hc_ BL2 HB3 HP HCN hne_
                  obtain ⟨AF, cF, eF⟩ := Kd.R_slice HH.out.hF
                  subst eF
                  go_upto_region 19 with (fail)
                  have hco_ : wg.cell? ⟨gO, 2, none⟩ = some (.slice AF s'.F.length cF) := (blk_cell HH.out.hO 2).trans rfl
                  have hfo_ := blk_frozen HH.out.hO 2
                  go_upto_region 20 with (first | ((with_reducible refine gate_builtin (b := .append) (xs := #[.tmp 102, .tmp 104]) rfl ?_); at_builtin; refine Kd.R_append (Kd.int .i64) (w0 := w) w.heap.size rfl (.tmp 102) (.tmp 104) 23 3 (.int .i64 0) 8 rfl Try.underlying23 info3 rfl (by decide) (by omega) (.slice AF s'.F.length cF) s'.F (x7) [.int .i64 (x7)] (fun k_ => rcl wg.heap.size colwg 2 k_ = 2) (fun _ => False) rfl rfl rfl (fun _ hk => hk.elim) (fun k_ hk => rcl_new hk) (R_col HH.out.hF (fun k_ hk => rcl_old hk)) HB.out HB.out.size (by have := LN.out; omega) ?_; intro v3 wh ho hb hg hat; obtain ⟨Anv3, cnv3, env3⟩ := Kd.R_slice ho; subst env3; rw [List.length_append, List.length_singleton] at ho; have HO19 := (B_gr HH.out.hO HH.out.cO hg HH.out.hF.1 (by decide)).1; have HC3 := Aside0.mk (B_gr BL.out HC.out hg HH.out.hF.1 (by decide)); have HP := HH.out.putF hg ho; have HB2 := Aside0.mk hb; clear ho hb hg hat hco_ hfo_; have hs19 : wh.cell? ⟨gO, 2, none⟩ = some (.slice AF s'.F.length cF) := (blk_cell HO19 2).trans rfl; have hf19 := blk_frozen HO19 2))
                  clear hs19 hf19
                  have hne_ : gl ≠ gO := fun e => by have a1 := HC3.out.2; have a2 := HP.cO; rw [e] at a1; omega
                  have HB3 := Aside0.mk (below_set (g := gO) (j := 2) (v := (.slice Anv3 (s'.F.length + 1) cnv3)) HB2.out HP.bO)
                  have BL2 := Aside0.mk (put_far HC3.out.1 hne_ 2 (.slice Anv3 (s'.F.length + 1) cnv3))
                  have HCN := HC3.out.2
                  clear HH BL HB HC HC3 HB2 HO19
                  generalize hwc : wh.setCell ⟨gO, 2, none⟩ (.slice Anv3 (s'.F.length + 1) cnv3) = wi at HP HB3 BL2 ⊢
                  clear hwc
                  obtain ⟨colwi, hh_, hc_⟩ : ∃ c_, OrbH w.heap.size c_ wi gO gM n' _ _ _ _ _ _ _ ∧ c_ gl = 8 := ⟨_, HP, HCN⟩
                  have HH := Aside0.mk hh_; have HC := Aside0.mk hc_; have BL := BL2; have HB := HB3
                  clear hh_ hc_ BL2 HB3 HP HCN hne_
                  obtain ⟨AB, cB, eB⟩ := Kd.R_slice HH.out.hB
                  subst eB
                  have hco_ : wi.cell? ⟨gO, 3, none⟩ = some (.slice AB s'.B.length cB) := (blk_cell HH.out.hO 3).trans rfl
                  have hfo_ := blk_frozen HH.out.hO 3
                  go_upto_region 21 with (first | ((with_reducible refine gate_builtin (b := .append) (xs := #[.tmp 112, .tmp 114]) rfl ?_); at_builtin; refine Kd.R_append (Kd.int .u8) (w0 := w) w.heap.size rfl (.tmp 112) (.tmp 114) 22 5 (.int .u8 0) 1 rfl Try.underlying22 info5 rfl (by decide) (by omega) (.slice AB s'.B.length cB) s'.B (84) [.int .u8 (84)] (fun k_ => rcl wi.heap.size colwi 3 k_ = 3) (fun _ => False) rfl rfl rfl (fun _ hk => hk.elim) (fun k_ hk => rcl_new hk) (R_col HH.out.hB (fun k_ hk => rcl_old hk)) HB.out HB.out.size (by have := LN.out; omega) ?_; intro v4 wj ho hb hg hat; obtain ⟨Anv4, cnv4, env4⟩ := Kd.R_slice ho; subst env4; rw [List.length_append, List.length_singleton] at ho; have HO19 := (B_gr HH.out.hO HH.out.cO hg HH.out.hB.1 (by decide)).1; have HC3 := Aside0.mk (B_gr BL.out HC.out hg HH.out.hB.1 (by decide)); have HP := HH.out.putB hg ho; have HB2 := Aside0.mk hb; clear ho hb hg hat hco_ hfo_; have hs19 : wj.cell? ⟨gO, 3, none⟩ = some (.slice AB s'.B.length cB) := (blk_cell HO19 3).trans rfl; have hf19 := blk_frozen HO19 3))
                  clear hs19 hf19
                  have hne_ : gl ≠ gO := fun e => by have a1 := HC3.out.2; have a2 := HP.cO; rw [e] at a1; omega
                  have HB3 := Aside0.mk (below_set (g := gO) (j := 3) (v := (.slice Anv4 (s'.B.length + 1) cnv4)) HB2.out HP.bO)
                  have BL2 := Aside0.mk (put_far HC3.out.1 hne_ 3 (.slice Anv4 (s'.B.length + 1) cnv4))
                  have HCN := HC3.out.2
                  clear HH BL HB HC HC3 HB2 HO19
                  generalize hwc : wj.setCell ⟨gO, 3, none⟩ (.slice Anv4 (s'.B.length + 1) cnv4) = wk at HP HB3 BL2 ⊢
                  clear hwc
                  obtain ⟨colwk, hh_, hc_⟩ : ∃ c_, OrbH w.heap.size c_ wk gO gM n' _ _ _ _ _ _ _ ∧ c_ gl = 8 := ⟨_, HP, HCN⟩
                  have HH := Aside0.mk hh_; have HC := Aside0.mk hc_; have BL := BL2; have HB := HB3
                  clear hh_ hc_ BL2 HB3 HP HCN hne_
                  generalize hcc : colwk = colc at HH HC
                  clear hcc
                  go_upto_region 21 with (fail)
                  replace HH := Aside0.mk (HH.out.below (below_drew1 (Below.refl _ _)))
                  replace BL := Aside0.mk (blk_drew BL.out)
                  replace HB := Aside0.mk (below_drew1 HB.out)
                  refine start_ (n := 15) (S := fun w' => w'.cell? ⟨gO, 4, none⟩ = some (.map (some gM)) ∧ w'.heap[gM]? = some (mapO n' vT' vS')) (ds := [14]) (bl_ 15 0) (by kernel_rfl) rfl (by kernel_rfl) ⟨(blk_cell HH.out.hO 4).trans rfl, HH.out.hM⟩ (fun hHeld => ?_)
                  refine with_tabW orb_tab21 orb_bits21 (fun HT_ HW_ => ?_)
                  generalize wk.drew = wl at HH BL HB hHeld ⊢
                  refine pu_ 0 (some 118) (bl_ 15 1) HT_ ?_
                  refine pu_ 1 (some 119) (bl_ 15 3) HT_ ?_
                  refine pu_ 2 (some 120) (bl_ 15 7) HT_ ?_
                  refine ta_ 3 (some 121) (bl_ 15 15) HT_ HW_ hHeld ?_
                  refine pu_ 4 (some 122) (bl_ 15 31) HT_ ?_
                  refine pu_ 5 (some 123) (bl_ 15 63) HT_ ?_
                  refine pu_ 6 (some 124) (bl_ 15 127) HT_ ?_
                  refine pu_ 7 (some 125) (bl_ 15 255) HT_ ?_
                  refine ta_ 8 (some 126) (bl_ 15 511) HT_ HW_ hHeld ?_
                  refine pu_ 9 (some 127) (bl_ 15 1023) HT_ ?_
                  have hlk : ∀ w', w'.heap[gM]? = some (mapO n' vT' vS') → (Instr.lookup 67 (.map (some gM)) (.int .u8 84) false).run Try.prog w' = .ok vT' w' := fun w' h_ => by
                    have hn := hn0.out
                    have := look_T h_ (by omega)
                    rw [HH.out.look.1] at this
                    exact this
                  refine ta_ 10 (some 128) (v := vT') (bl_ 15 2047) HT_ HW_ hHeld ?_ (hy := Or.inl ⟨by rfl, fun w' hs_ => ?_⟩)
                  rotate_left
                  · have hq := hlk w' hs_.2
                    go_simp
                  clear hlk
                  refine pu_ 11 (some 129) (bl_ 15 4095) HT_ ?_
                  refine on_ 12 (some 130) (bl_ 15 8191) HT_ (fun K hK => ?_)
                  refine value_ (w1 := ?_) (v := ?_) (by rfl) rfl ?_ ?_
                  rotate_left 2
                  · go_simp
                    constructor
                    · rfl
                    · rfl
                  refine hK.out _ _ ⟨((below_alloc (Below.refl _ _) _).cell (World.block_lt_of_cell? _ _ hHeld.1)).trans hHeld.1, blk_alloc hHeld.2 _⟩ (fun hHeld => ?_)
                  clear hK K
                  refine no_ (some 130) ?_
                  refine on_ 13 (some 131) (bl_ 15 16383) HT_ (fun K hK => ?_)
                  refine Kd.R_append_step (Kd.int .i64) (w0 := w) w.heap.size (by rfl) (.tmp 128) (.tmp 130) 23 3 (.int .i64 0) 8 rfl Try.underlying23 info3 rfl (by decide) (by omega) vT' s'.T ((s'.L.length : Int)) [.int .i64 ((s'.L.length : Int))] (fun k_ => rcl wl.heap.size colc 4 k_ = 4) (fun _ => False) rfl rfl rfl (fun _ hk => hk.elim) (fun k_ hk => rcl_new hk) (R_col HH.out.hT (fun k_ hk => rcl_old hk)) HB.out HB.out.size (by have := LN.out; omega) ?_
                  intro v1 wlb ho hb hg hat
                  have HP := HH.out.putT hg ho
                  have HM := Aside0.mk HP.1
                  have HO19 := (B_gr HH.out.hO HH.out.cO hg HH.out.hT.1 (by decide)).1
                  have HC3 := Aside0.mk (B_gr BL.out HC.out hg HH.out.hT.1 (by decide))
                  replace HH := Aside0.mk HP.2
                  clear HP
                  have HB2 := Aside0.mk hb
                  refine hK.out _ _ ⟨(blk_cell HO19 4).trans rfl, HM.out⟩ (fun hHeld => ?_)
                  clear hK K ho hb hg hat HO19
                  refine no_ (some 131) ?_
                  refine last_ (i := 14) (N := none) (bl_ 15 32767) rfl rfl (one_of HT_.out (by kernel_rfl)) (by decide) (fun K hK => ?_)
                  have hput : (Instr.mapUpdate 67 (.map (some gM)) (.int .u8 84) v1).run Try.prog wlb = .ok () (setMap wlb gM (max n' 1) v1 vS') := put_T HM.out hn0.out v1
                  refine skip_ (w1 := setMap wlb gM (max n' 1) v1 vS') (by rfl) rfl ?_ ?_
                  · go_simp
                  refine hK.out _ _ ?_
                  clear hK K hput
                  refine done_ (done_of HT_.out (by kernel_rfl)) ?_
                  try go_wp2
                  have hgm : gl ≠ gM := fun e => by have a1 := HC3.out.2; have a2 := HH.out.cM; rw [e] at a1; omega
                  have BL2 := Aside0.mk ((setMap_far (n := max n' 1) v1 vS' hgm).trans HC3.out.1)
                  have HB3 := Aside0.mk (setMap_below (n := max n' 1) v1 vS' HB2.out HH.out.bM)
                  go_roundg 1
                  case measure => have := HG.out; omega
                  case rel => exact ⟨1, max n' 1, _, _, _, _, _, _, _, _, (by first | rfl | (simp; done) | (simp [*]; done)), ⟨by omega⟩, ⟨by omega⟩, HT, ⟨⟨fun e => absurd e (by decide), fun _ => by have := hn0.out; omega, fun e => absurd e (by decide)⟩⟩, ⟨HC3.out.2⟩, BL2, HH, HB3⟩
              · have H := HS.out
                clear HS
                rw [if_neg hj0] at H
                have hjb := decide_eq_false hj0
                have hlen := cp_ H
                replace H := Option.some.inj (ca_ H)
                subst H
                rw [if_pos rfl, if_pos rfl] at HT
                have LN := Aside0.mk hlen
                clear hlen SL13 Y0 Y1 BX NE GX
                generalize hcc : rcl w13.heap.size col' 0 = colc at HH HC
                clear hcc
                go_upto_region 21 with (fail)
                replace HH := Aside0.mk (HH.out.below (below_drew1 (Below.refl _ _)))
                replace BL := Aside0.mk (blk_drew BL.out)
                replace HB := Aside0.mk (below_drew1 HB.out)
                refine start_ (n := 15) (S := fun w' => w'.cell? ⟨gO, 4, none⟩ = some (.map (some gM)) ∧ w'.heap[gM]? = some (mapO n' vT' vS')) (ds := [14]) (bl_ 15 0) (by kernel_rfl) rfl (by kernel_rfl) ⟨(blk_cell HH.out.hO 4).trans rfl, HH.out.hM⟩ (fun hHeld => ?_)
                refine with_tabW orb_tab21 orb_bits21 (fun HT_ HW_ => ?_)
                generalize w17.drew = w18 at HH BL HB hHeld ⊢
                refine pu_ 0 (some 118) (bl_ 15 1) HT_ ?_
                refine pu_ 1 (some 119) (bl_ 15 3) HT_ ?_
                refine pu_ 2 (some 120) (bl_ 15 7) HT_ ?_
                refine ta_ 3 (some 121) (bl_ 15 15) HT_ HW_ hHeld ?_
                refine pu_ 4 (some 122) (bl_ 15 31) HT_ ?_
                refine pu_ 5 (some 123) (bl_ 15 63) HT_ ?_
                refine pu_ 6 (some 124) (bl_ 15 127) HT_ ?_
                refine pu_ 7 (some 125) (bl_ 15 255) HT_ ?_
                refine ta_ 8 (some 126) (bl_ 15 511) HT_ HW_ hHeld ?_
                refine pu_ 9 (some 127) (bl_ 15 1023) HT_ ?_
                have hlk : ∀ w', w'.heap[gM]? = some (mapO n' vT' vS') → (Instr.lookup 67 (.map (some gM)) (.int .u8 84) false).run Try.prog w' = .ok vT' w' := fun w' h_ => by
                  have hn := hn0.out
                  have := look_T h_ (by omega)
                  rw [HH.out.look.1] at this
                  exact this
                refine ta_ 10 (some 128) (v := vT') (bl_ 15 2047) HT_ HW_ hHeld ?_ (hy := Or.inl ⟨by rfl, fun w' hs_ => ?_⟩)
                rotate_left
                · have hq := hlk w' hs_.2
                  go_simp
                clear hlk
                refine pu_ 11 (some 129) (bl_ 15 4095) HT_ ?_
                refine on_ 12 (some 130) (bl_ 15 8191) HT_ (fun K hK => ?_)
                refine value_ (w1 := ?_) (v := ?_) (by rfl) rfl ?_ ?_
                rotate_left 2
                · go_simp
                  constructor
                  · rfl
                  · rfl
                refine hK.out _ _ ⟨((below_alloc (Below.refl _ _) _).cell (World.block_lt_of_cell? _ _ hHeld.1)).trans hHeld.1, blk_alloc hHeld.2 _⟩ (fun hHeld => ?_)
                clear hK K
                refine no_ (some 130) ?_
                refine on_ 13 (some 131) (bl_ 15 16383) HT_ (fun K hK => ?_)
                refine Kd.R_append_step (Kd.int .i64) (w0 := w) w.heap.size (by rfl) (.tmp 128) (.tmp 130) 23 3 (.int .i64 0) 8 rfl Try.underlying23 info3 rfl (by decide) (by omega) vT' s'.T (j) [.int .i64 (j)] (fun k_ => rcl w18.heap.size colc 4 k_ = 4) (fun _ => False) rfl rfl rfl (fun _ hk => hk.elim) (fun k_ hk => rcl_new hk) (R_col HH.out.hT (fun k_ hk => rcl_old hk)) HB.out HB.out.size (by have := LN.out; omega) ?_
                intro v1 w18b ho hb hg hat
                have HP := HH.out.putT hg ho
                have HM := Aside0.mk HP.1
                have HO19 := (B_gr HH.out.hO HH.out.cO hg HH.out.hT.1 (by decide)).1
                have HC3 := Aside0.mk (B_gr BL.out HC.out hg HH.out.hT.1 (by decide))
                replace HH := Aside0.mk HP.2
                clear HP
                have HB2 := Aside0.mk hb
                refine hK.out _ _ ⟨(blk_cell HO19 4).trans rfl, HM.out⟩ (fun hHeld => ?_)
                clear hK K ho hb hg hat HO19
                refine no_ (some 131) ?_
                refine last_ (i := 14) (N := none) (bl_ 15 32767) rfl rfl (one_of HT_.out (by kernel_rfl)) (by decide) (fun K hK => ?_)
                have hput : (Instr.mapUpdate 67 (.map (some gM)) (.int .u8 84) v1).run Try.prog w18b = .ok () (setMap w18b gM (max n' 1) v1 vS') := put_T HM.out hn0.out v1
                refine skip_ (w1 := setMap w18b gM (max n' 1) v1 vS') (by rfl) rfl ?_ ?_
                · go_simp
                refine hK.out _ _ ?_
                clear hK K hput
                refine done_ (done_of HT_.out (by kernel_rfl)) ?_
                try go_wp2
                have hgm : gl ≠ gM := fun e => by have a1 := HC3.out.2; have a2 := HH.out.cM; rw [e] at a1; omega
                have BL2 := Aside0.mk ((setMap_far (n := max n' 1) v1 vS' hgm).trans HC3.out.1)
                have HB3 := Aside0.mk (setMap_below (n := max n' 1) v1 vS' HB2.out HH.out.bM)
                go_roundg 1
                case measure => have := HG.out; omega
                case rel => exact ⟨1, max n' 1, _, _, _, _, _, _, _, _, (by first | rfl | (simp; done) | (simp [*]; done)), ⟨by omega⟩, ⟨by omega⟩, HT, ⟨⟨fun e => absurd e (by decide), fun _ => by have := hn0.out; omega, fun e => absurd e (by decide)⟩⟩, ⟨HC3.out.2⟩, BL2, HH, HB3⟩
            · skip
              have hn0 := Aside0.mk (HN.out.2.1 rfl)
              have H := AZ.out
              clear AZ
              change innerO k1 x7 (83 :: []) s' = some z at H
              simp only [innerO] at H
              obtain ⟨zz, AS, H⟩ := bi_ H
              have HT := Aside0.mk H
              have H := AS.out
              clear AS
              unfold stpO at H
              have hi0 := cp_ H
              replace H := ca_ H
              have hi1 := cp_ H
              replace H := ca_ H
              obtain ⟨⟨x1, x2⟩, AX, H⟩ := bi_ H
              obtain ⟨⟨y1', y2', yb⟩, AY, H⟩ := bi_ H
              obtain ⟨j, AJ, H⟩ := bi_ H
              dsimp only at H AY AJ
              have HS := Aside0.mk H
              clear H
              obtain ⟨adx, Ax0, cx0, Ax1, cx1, ex, hx0, hx1, hlx0, hix0, hlx1, hix1⟩ := at_T25 (Kd.S_reads' HH.out.hL).2.2 x7 hi0 hi1
              cases ex
              have X0 := Aside0.mk hix0; have X1 := Aside0.mk hix1; have LX0 := Aside0.mk hlx0; have LX1 := Aside0.mk hlx1
              clear hix0 hix1 hlx0 hlx1
              have ti0 := eq_true hi0
              have ti1 := eq_true hi1
              have td1 := decide_eq_true hi1
              go_upto_region 12 with (first | ((with_reducible refine gate_callee (f := 63) rfl ?_); refine gL_ (some 52) Try.func63 #[.agg #[.slice Ax0 (rd_T25 s'.L x7).f0.length cx0, .slice Ax1 (rd_T25 s'.L x7).f1.length cx1], .int .u8 83] rfl qa_ ?_; (with_reducible refine (impl_letterSurface.calls k1 _ _ (rd_T25 s'.L x7).f0 _ _ (rd_T25 s'.L x7).f1 83 x1 x2 _ X0.out LX0.out X1.out LX1.out AX.out).mono ?_); rintro e w13 ⟨v0, v1, rfl, ho0, ho1, hb⟩; refine ⟨_, rfl, ?_⟩; replace HH := Aside0.mk (HH.out.below hb); replace BL := bb_ BL hb; replace HB := b1_ hb; clear hb; obtain ⟨Al0, cl0, el0⟩ := Kd.R_slice ho0; subst el0; obtain ⟨Al1, cl1, el1⟩ := Kd.R_slice ho1; subst el1; have LT0 := Aside0.mk (Kd.R_reads' ho0).2; have LT1 := Aside0.mk (Kd.R_reads' ho1).2; clear ho0 ho1) | ((with_reducible refine gate_callee (f := 28) rfl ?_); refine gL_ (some 53) Try.func28 #[.agg #[.slice Al0 x1.length cl0, .slice Al1 x2.length cl1]] rfl qa_ ?_; (with_reducible refine (impl_CanonOf.calls k1 _ _ x1 _ _ x2 y1' y2' yb _ LT0.out.2 LT0.out.1 LT1.out.2 LT1.out.1 AY.out).mono ?_); rintro e w14 ⟨v0, v1, rfl, ho0, ho1, hb⟩; refine ⟨_, rfl, ?_⟩; have ZC := Aside0.mk (below_size hB_ : w.heap.size ≤ w13.heap.size); have ZD := Aside0.mk hb.size; have SL13 := Aside0.mk (Kd.S_below (Kd.S_mono (ok' := fun k_ => col' k_ = 0 ∧ k_ < w13.heap.size) (Kd.S_bound HH.out.hL) (fun k_ hk_ => ⟨hk_.1, hk_.2.2.1⟩)) hb); replace HH := Aside0.mk ((HH.out.recol (col' := rcl w13.heap.size col' 0) (fun k hk => rcl_old hk)).below hb); replace HC := Aside0.mk ((rcl_old (blk_lt BL.out)).trans HC.out : rcl w13.heap.size col' 0 gl = 8); replace BL := bb_ BL hb; replace HB := b1_ hb; clear hb; obtain ⟨Ay0, cy0, ey0⟩ := Kd.R_slice ho0; subst ey0; obtain ⟨Ay1, cy1, ey1⟩ := Kd.R_slice ho1; subst ey1; have Y0 := Aside0.mk ho0; have Y1 := Aside0.mk ho1; clear ho0 ho1) | ((with_reducible refine gate_dst (N := 10) rfl ?_); refine bx_ 10 #[.slice none 0 0, .slice none 0 0] 25 ?_; intro gx hg w15 hbox hb; have GX := Aside0.mk (show w14.heap.size ≤ gx from Nat.le_of_eq hg.symm); have BX := Aside0.mk hbox; have B3 := Aside0.mk hb; clear hb hbox hg; obtain ⟨hcf0, hcf1, hff0, hff1⟩ := c2_ BX))
              obtain ⟨hbox, hkp, hB2⟩ := box_store (w0 := w14) BX.out (.slice Ay0 y1'.length cy0) (.slice Ay1 y2'.length cy1) B3.out GX.out
              generalize hw : ((w15.setCell ⟨gx, 0, none⟩ (.slice Ay0 y1'.length cy0)).setCell ⟨gx, 1, none⟩ (.slice Ay1 y2'.length cy1)) = w16 at hbox hkp hB2 ⊢
              clear hw hcf0 hcf1 hff0 hff1 hcl0 hcl1 hfl0 hfl1 hco0 hfo0 hx0 hx1 X0 X1 LX0 LX1 LT0 LT1
              have NE := Aside0.mk (show NeRow (.slice Ay0 y1'.length cy0) (.slice Ay1 y2'.length cy1) from fun k_ e1_ e2_ => (Y0.out.1 k_ e1_) e2_.symm)
              replace HH := Aside0.mk (HH.out.below hB2)
              replace BL := Aside0.mk (blk_below BL.out hB2)
              replace Y0 := Aside0.mk (Kd.R_below (Kd.R_bound Y0.out) hB2)
              replace Y1 := Aside0.mk (Kd.R_below (Kd.R_bound Y1.out) hB2)
              replace SL13 := Aside0.mk (Kd.S_below SL13.out hB2)
              replace HB := Aside0.mk (below_step HB.out hB2)
              replace BX := Aside0.mk (show w16.heap[gx]? = some (.cells #[.slice Ay0 y1'.length cy0, .slice Ay1 y2'.length cy1] 25 (0, 0)) from hbox)
              have ZE := Aside0.mk hB2.size
              clear hbox hkp hB2 B3
              obtain ⟨hcx0, hcx1, hfx0, hfx1⟩ := c2_ BX
              have hLr := (Kd.S_reads' HH.out.hL).2
              have RL := Aside0.mk hLr
              clear hLr
              go_upto_region 13 with (first | ((with_reducible refine gate_callee (f := 72) rfl ?_); refine gL_ (some 58) Try.func72 #[.pointer (some ⟨gO, 0, none⟩), .agg #[.slice Ay0 y1'.length cy0, .slice Ay1 y2'.length cy1]] rfl qa_ ?_; (with_reducible refine (index_calls k1 gO _ _ s'.L _ _ _ _ _ _ y1' _ _ y2' j _ RL.out.2 RL.out.1 (Kd.R_reads' Y0.out).2.2 (Kd.R_reads' Y0.out).2.1 (Kd.R_reads' Y1.out).2.2 (Kd.R_reads' Y1.out).2.1 HH.out.hO AJ.out).mono ?_); rintro e w17 ⟨rfl, hb⟩; refine ⟨_, rfl, ?_⟩; have ZF := Aside0.mk hb.size; replace HH := Aside0.mk (HH.out.below hb); replace BL := bb_ BL hb; replace BX := bb_ BX hb; replace Y0 := Aside0.mk (Kd.R_below Y0.out hb); replace Y1 := Aside0.mk (Kd.R_below Y1.out hb); replace SL13 := Aside0.mk (Kd.S_below SL13.out hb); replace HB := b1_ hb; clear hb))
              clear hcx0 hcx1 hfx0 hfx1 RL
              have ZW := Aside0.mk (show w13.heap.size ≤ w17.heap.size from Nat.le_trans ZD.out (Nat.le_trans ZE.out ZF.out))
              clear ZD ZE ZF
              by_cases hj0 : j < 0
              · have H := HS.out
                clear HS
                rw [if_pos hj0] at H
                have hjb := decide_eq_true hj0
                have hco0 : w17.cell? ⟨gO, 0, none⟩ = some (.slice (some adx) s'.L.length cL') := (blk_cell HH.out.hO 0).trans rfl
                have hfo0 := blk_frozen HH.out.hO 0
                by_cases hq5 : (s'.L.length : Int) = 120
                · rw [if_pos hq5] at H
                  obtain rfl := Option.some.inj H
                  clear H
                  have hzn : z = none := (Option.some.inj HT.out).symm
                  subst hzn
                  have hRn : R = none := (Option.some.inj HR.out).symm
                  subst hRn
                  have e5b : ((s'.L.length : Int) == 120) = true := beq_iff_eq.mpr hq5
                  clear hq5
                  go_wp2
                  go_ret2
                  exact ⟨qb_, hB_⟩
                · rw [if_neg hq5] at H
                  have e5b : ((s'.L.length : Int) == 120) = false := beq_eq_false_iff_ne.mpr hq5
                  clear hq5
                  have hlen := cp_ H
                  replace H := ca_ H
                  have hiW := cp_ H
                  replace H := ca_ H
                  have hsz := cp_ H
                  replace H := Option.some.inj (ca_ H)
                  subst H
                  rw [if_neg (by decide), if_neg (by decide)] at HT
                  have LN := Aside0.mk hlen
                  have LS := Aside0.mk hsz
                  clear hlen hsz
                  go_upto_region 17 with (fail)
                  clear hco0 hfo0 e5b
                  replace HH := Aside0.mk (HH.out.below (below_drew1 (Below.refl _ _)))
                  replace BL := Aside0.mk (blk_drew BL.out)
                  replace BX := Aside0.mk (blk_drew BX.out)
                  replace HB := Aside0.mk (below_drew1 HB.out)
                  replace Y0 := Aside0.mk (Kd.R_bound (Kd.R_drew Y0.out))
                  replace Y1 := Aside0.mk (Kd.R_bound (Kd.R_drew Y1.out))
                  replace SL13 := Aside0.mk (Kd.S_drew SL13.out)
                  replace ZW := Aside0.mk (show w13.heap.size ≤ w17.drew.heap.size from ZW.out)
                  refine start_ (n := 11) (S := fun w' => w'.cell? ⟨gO, 0, none⟩ = some (.slice (some adx) s'.L.length cL') ∧ w'.cell? ⟨gx, 0, none⟩ = some (.slice Ay0 y1'.length cy0) ∧ w'.cell? ⟨gx, 1, none⟩ = some (.slice Ay1 y2'.length cy1)) (ds := [7, 10]) (bl_ 11 0) (by kernel_rfl) rfl (by kernel_rfl) ⟨(blk_cell HH.out.hO 0).trans rfl, (blk_cell BX.out 0).trans rfl, (blk_cell BX.out 1).trans rfl⟩ (fun hHeld => ?_)
                  refine with_tabW orb_tab17 orb_bits17 (fun HT_ HW_ => ?_)
                  generalize w17.drew = wa at HH BL BX HB Y0 Y1 SL13 ZW hHeld ⊢
                  refine pu_ 0 (some 68) (bl_ 11 1) HT_ ?_
                  refine pu_ 1 (some 69) (bl_ 11 3) HT_ ?_
                  refine pu_ 2 (some 70) (bl_ 11 7) HT_ ?_
                  refine pu_ 3 (some 71) (bl_ 11 15) HT_ ?_
                  refine ta_ 4 (some 72) (bl_ 11 31) HT_ HW_ hHeld ?_
                  refine ta_ 5 (some 73) (bl_ 11 63) HT_ HW_ hHeld ?_
                  refine on_ 6 (some 74) (bl_ 11 127) HT_ (fun K hK => ?_)
                  refine value_ (w1 := ?_) (v := ?_) (by rfl) rfl ?_ ?_
                  rotate_left 2
                  · go_simp
                    constructor
                    · rfl
                    · rfl
                  refine hK.out _ _ ⟨((below_alloc (Below.refl _ _) _).cell (World.block_lt_of_cell? _ _ hHeld.1)).trans hHeld.1, ((below_alloc (Below.refl _ _) _).cell (World.block_lt_of_cell? _ _ hHeld.2.1)).trans hHeld.2.1, ((below_alloc (Below.refl _ _) _).cell (World.block_lt_of_cell? _ _ hHeld.2.2)).trans hHeld.2.2⟩ (fun hHeld => ?_)
                  clear hK K
                  refine no_ (some 74) ?_
                  refine last_ (i := 7) (N := some 75) (bl_ 11 255) rfl rfl (one_of HT_.out (by kernel_rfl)) (by decide) (fun K hK => ?_)
                  refine Kd.S_append_step k25 (w0 := w) w.heap.size (by rfl) (.tmp 72) (.tmp 74) 36 25 (.agg #[(.slice none 0 0), (.slice none 0 0)]) 48 rfl Try.underlying36 info25 rfl (by decide) (by omega) (.slice (some adx) s'.L.length cL') s'.L (⟨y1', y2'⟩ : S25) [.slice Ay0 y1'.length cy0, .slice Ay1 y2'.length cy1] (fun k_ => rcl wa.heap.size (rcl w13.heap.size col' 0) 0 k_ = 0) (fun k_ => w13.heap.size ≤ k_ ∧ k_ < wa.heap.size) rfl rfl ?aP ?aQ (fun k_ hk => rcl_new hk) ?aO HB.out HB.out.size (by have := LN.out; omega) ?_
                  case aP => exact k25_mkM _ _ _ (⟨y1', y2'⟩ : S25) (Kd.R_mono (Kd.R_lower Y0.out ZC.out) (fun k_ hk => ⟨hk.2.1, hk.2.2.1⟩)) (Kd.R_mono (Kd.R_lower Y1.out ZC.out) (fun k_ hk => ⟨hk.2.1, hk.2.2.1⟩)) NE.out
                  case aQ => exact fun k_ hk => ⟨(rcl_old hk.2).trans (rcl_new hk.1), fun e => by have := ((Kd.S_R SL13.out).1 k_ e.symm).2; have := hk.1; omega⟩
                  case aO => exact Kd.S_mono SL13.out (fun k_ hk => ⟨(rcl_old (Nat.lt_of_lt_of_le hk.2 ZW.out)).trans ((rcl_old hk.2).trans hk.1), fun h_ => by have := hk.2; have := h_.1; omega⟩)
                  intro v1 wb ho hb hg hat
                  obtain ⟨An1, cn1, en1⟩ := Kd.S_slice ho
                  subst en1
                  have HO19 := (B_gr HH.out.hO HH.out.cO hg (Kd.S_R HH.out.hL).1 (by decide)).1
                  have HC3 := Aside0.mk (B_gr BL.out HC.out hg (Kd.S_R HH.out.hL).1 (by decide))
                  have HP := HH.out.putL hg ho
                  have HB2 := Aside0.mk hb
                  refine hK.out _ _ ?_
                  clear hK K ho hb hg hat SL13 Y0 Y1 BX NE GX
                  refine no_ (some 75) ?_
                  refine pu_ 8 (some 76) (bl_ 11 511) HT_ ?_
                  refine pu_ 9 (some 77) (bl_ 11 1023) HT_ ?_
                  refine last_ (i := 10) (N := none) (bl_ 11 2047) rfl rfl (one_of HT_.out (by kernel_rfl)) (by decide) (fun K hK => ?_)
                  have hs19 : wb.cell? ⟨gO, 0, none⟩ = some (.slice (some adx) s'.L.length cL') := (blk_cell HO19 0).trans rfl
                  have hf19 := blk_frozen HO19 0
                  refine skip_ (w1 := wb.setCell ⟨gO, 0, none⟩ (.slice An1 (s'.L ++ [(⟨y1', y2'⟩ : S25)]).length cn1)) (by rfl) rfl ?_ ?_
                  · go_simp
                  refine hK.out _ _ ?_
                  clear hK K hs19 hf19
                  refine done_ (done_of HT_.out (by kernel_rfl)) ?_
                  have hne_ : gl ≠ gO := fun e => by have a1 := HC3.out.2; have a2 := HP.cO; rw [e] at a1; omega
                  have HB3 := Aside0.mk (below_set (g := gO) (j := 0) (v := (.slice An1 (s'.L ++ [(⟨y1', y2'⟩ : S25)]).length cn1)) HB2.out HP.bO)
                  have BL2 := Aside0.mk (put_far HC3.out.1 hne_ 0 (.slice An1 (s'.L ++ [(⟨y1', y2'⟩ : S25)]).length cn1))
                  have HCN := HC3.out.2
                  clear HH BL HB HC HC3 HB2 HO19
                  generalize hwc : wb.setCell ⟨gO, 0, none⟩ (.slice An1 (s'.L ++ [(⟨y1', y2'⟩ : S25)]).length cn1) = wc at HP HB3 BL2 ⊢
                  clear hwc
                  obtain ⟨colwc, hh_, hc_⟩ : ∃ c_, OrbH w.heap.size c_ wc gO gM n' _ _ _ _ _ _ _ ∧ c_ gl = 8 := ⟨_, HP, HCN⟩
                  have HH := Aside0.mk hh_; have HC := Aside0.mk hc_; have BL := BL2; have HB := HB3
                  clear hh_ hc_ BL2 HB3 HP HCN hne_
                  obtain ⟨AW, cW, eW⟩ := Kd.R_slice HH.out.hW
                  subst eW
                  go_upto_region 18 with (fail)
                  replace HH := Aside0.mk (HH.out.below (below_drew1 (Below.refl _ _)))
                  replace BL := Aside0.mk (blk_drew BL.out)
                  replace HB := Aside0.mk (below_drew1 HB.out)
                  obtain ⟨adw, ew, hxw⟩ := Kd.at_string (Kd.R_reads' HH.out.hW).2.2 x7 hi0 hiW
                  cases ew
                  have tw1 := eq_true hiW
                  have tw2 := decide_eq_true hiW
                  refine start_ (n := 21) (S := fun w' => w'.cell? ⟨gO, 1, none⟩ = some (.slice (some adw) s'.W.length cW) ∧ w'.cell? (adw.add (x7).toNat) = some (.string (rdOf ByteArray.empty s'.W x7))) (ds := [17, 20]) (bl_ 21 0) (by kernel_rfl) rfl (by kernel_rfl) ⟨(blk_cell HH.out.hO 1).trans rfl, hxw⟩ (fun hHeld => ?_)
                  refine with_tabW orb_tab18 orb_bits18 (fun HT_ HW_ => ?_)
                  clear hxw
                  generalize wc.drew = wd at HH BL HB hHeld ⊢
                  refine pu_ 0 (some 78) (bl_ 21 1) HT_ ?_
                  refine pu_ 1 (some 79) (bl_ 21 3) HT_ ?_
                  refine pu_ 2 (some 80) (bl_ 21 7) HT_ ?_
                  refine pu_ 3 (some 81) (bl_ 21 15) HT_ ?_
                  refine ta_ 4 (some 82) (bl_ 21 31) HT_ HW_ hHeld ?_
                  refine pu_ 5 (some 83) (bl_ 21 63) HT_ ?_
                  refine pu_ 6 (some 84) (bl_ 21 127) HT_ ?_
                  refine pu_ 7 (some 85) (bl_ 21 255) HT_ ?_
                  refine ta_ 8 (some 86) (bl_ 21 511) HT_ HW_ hHeld ?_
                  refine pu_ 9 (some 87) (bl_ 21 1023) HT_ ?_
                  refine pu_ 10 (some 88) (bl_ 21 2047) HT_ ?_
                  refine ta_ 11 (some 89) (bl_ 21 4095) HT_ HW_ hHeld ?_
                  refine pu_ 12 (some 90) (bl_ 21 8191) HT_ ?_
                  refine on_ 13 (some 91) (bl_ 21 16383) HT_ (fun K hK => ?_)
                  refine Kd.R_lit_step (Kd.int .u8) _ 5 ?hg (N := 91) ?hd (xs := ([83] : List Int)) (inner := [.int .u8 83]) (ok := fun _ => True) (okp := fun _ => True) ?hr ?hp (fun _ hk => hk) trivial (Below.refl _ _) (Nat.le_refl _) (by simp) ?_; (case hd => rfl); (case hg => rfl); (case hr => first | (go_simp; done) | (go_simp; rfl)); (case hp => exact (Reps.one (show Kd.M (Kd.int .u8) _ _ _ 83 [.int .u8 83] from rfl) (Reps.none _ _)))
                  intro vq we hoq hb hg_ hnew_
                  have hS1_ := (hb.cell (World.block_lt_of_cell? _ _ hHeld.1)).trans hHeld.1
                  have hS2_ := (hb.cell (World.block_lt_of_cell? _ _ hHeld.2)).trans hHeld.2
                  replace HH := Aside0.mk (HH.out.below hb)
                  replace BL := bb_ BL hb
                  replace HB := b1_ hb
                  have HOq := Aside0.mk hoq
                  clear hg_ hnew_ hb hoq
                  refine hK.out _ _ ⟨hS1_, hS2_⟩ (fun hHeld => ?_)
                  clear hK K hS1_ hS2_
                  refine no_ (some 91) ?_
                  refine on_ 14 (some 92) (bl_ 21 32767) HT_ (fun K hK => ?_)
                  have hcv47 := own_string (P := Try.prog) Try.underlying22 Try.underlying5 Try.underlying9 (Kd.own_of_R HOq.out)
                  refine value_ (w1 := ?_) (v := ?_) (by rfl) rfl ?_ ?_
                  rotate_left 2
                  · go_simp
                    constructor
                    · rfl
                    · rfl
                  clear hcv47 HOq
                  refine hK.out _ _ hHeld (fun hHeld => ?_)
                  clear hK K
                  refine no_ (some 92) ?_
                  have hs1_ : (strOfNums [(83 : Int)]).size = 1 := by decide +kernel
                  have tw3 : (9223372036854775807 < (rdOf ByteArray.empty s'.W x7).size + (strOfNums [(83 : Int)]).size) = False := eq_false (by rw [hs1_]; have := LS.out; omega)
                  clear hs1_
                  refine pu_ 15 (some 93) (bl_ 21 65535) HT_ ?_
                  clear tw3
                  refine on_ 16 (some 94) (bl_ 21 131071) HT_ (fun K hK => ?_)
                  refine value_ (w1 := ?_) (v := ?_) (by rfl) rfl ?_ ?_
                  rotate_left 2
                  · go_simp
                    constructor
                    · rfl
                    · rfl
                  refine hK.out _ _ ⟨((below_alloc (Below.refl _ _) _).cell (World.block_lt_of_cell? _ _ hHeld.1)).trans hHeld.1, ((below_alloc (Below.refl _ _) _).cell (World.block_lt_of_cell? _ _ hHeld.2)).trans hHeld.2⟩ (fun hHeld => ?_)
                  clear hK K
                  refine no_ (some 94) ?_
                  refine last_ (i := 17) (N := some 95) (bl_ 21 262143) rfl rfl (one_of HT_.out (by kernel_rfl)) (by decide) (fun K hK => ?_)
                  refine Kd.R_append_step Kd.string (w0 := w) w.heap.size (by rfl) (.tmp 82) (.tmp 94) 53 9 (.string ⟨#[]⟩) 16 rfl Try.underlying53 info9 rfl (by decide) (by omega) (.slice (some adw) s'.W.length cW) s'.W ((rdOf ByteArray.empty s'.W x7) ++ (strOfNums [83])) [.string ((rdOf ByteArray.empty s'.W x7) ++ (strOfNums [83]))] (fun k_ => rcl we.heap.size colwc 1 k_ = 1) (fun _ => False) rfl rfl rfl (fun _ hk => hk.elim) (fun k_ hk => rcl_new hk) (R_col HH.out.hW (fun k_ hk => rcl_old hk)) HB.out HB.out.size (by have := LN.out; omega) ?_
                  intro v2 wf ho hb hg hat
                  obtain ⟨An2, cn2, en2⟩ := Kd.R_slice ho
                  subst en2
                  have HO19 := (B_gr HH.out.hO HH.out.cO hg HH.out.hW.1 (by decide)).1
                  have HC3 := Aside0.mk (B_gr BL.out HC.out hg HH.out.hW.1 (by decide))
                  have HP := HH.out.putW hg ho
                  have HB2 := Aside0.mk hb
                  refine hK.out _ _ ?_
                  clear hK K ho hb hg hat
                  refine no_ (some 95) ?_
                  refine pu_ 18 (some 96) (bl_ 21 524287) HT_ ?_
                  refine pu_ 19 (some 97) (bl_ 21 1048575) HT_ ?_
                  refine last_ (i := 20) (N := none) (bl_ 21 2097151) rfl rfl (one_of HT_.out (by kernel_rfl)) (by decide) (fun K hK => ?_)
                  have hs19 : wf.cell? ⟨gO, 1, none⟩ = some (.slice (some adw) s'.W.length cW) := (blk_cell HO19 1).trans rfl
                  have hf19 := blk_frozen HO19 1
                  refine skip_ (w1 := wf.setCell ⟨gO, 1, none⟩ (.slice An2 (s'.W ++ [(rdOf ByteArray.empty s'.W x7) ++ (strOfNums [83])]).length cn2)) (by rfl) rfl ?_ ?_
                  · go_simp
                  refine hK.out _ _ ?_
                  clear hK K hs19 hf19
                  refine done_ (done_of HT_.out (by kernel_rfl)) ?_
                  have hne_ : gl ≠ gO := fun e => by have a1 := HC3.out.2; have a2 := HP.cO; rw [e] at a1; omega
                  have HB3 := Aside0.mk (below_set (g := gO) (j := 1) (v := (.slice An2 (s'.W ++ [(rdOf ByteArray.empty s'.W x7) ++ (strOfNums [83])]).length cn2)) HB2.out HP.bO)
                  have BL2 := Aside0.mk (put_far HC3.out.1 hne_ 1 (.slice An2 (s'.W ++ [(rdOf ByteArray.empty s'.W x7) ++ (strOfNums [83])]).length cn2))
                  have HCN := HC3.out.2
                  clear HH BL HB HC HC3 HB2 HO19
                  generalize hwc : wf.setCell ⟨gO, 1, none⟩ (.slice An2 (s'.W ++ [(rdOf ByteArray.empty s'.W x7) ++ (strOfNums [83])]).length cn2) = wg at HP HB3 BL2 ⊢
                  clear hwc
                  obtain ⟨colwg, hh_, hc_⟩ : ∃ c_, OrbH w.heap.size c_ wg gO gM n' _ _ _ _ _ _ _ ∧ c_ gl = 8 := ⟨_, HP, HCN⟩
                  have HH := Aside0.mk hh_; have HC := Aside0.mk hc_; have BL := BL2; have HB := HB3
                  clear hh_ hc_ BL2 HB3 HP HCN hne_
                  obtain ⟨AF, cF, eF⟩ := Kd.R_slice HH.out.hF
                  subst eF
                  go_upto_region 19 with (fail)
                  have hco_ : wg.cell? ⟨gO, 2, none⟩ = some (.slice AF s'.F.length cF) := (blk_cell HH.out.hO 2).trans rfl
                  have hfo_ := blk_frozen HH.out.hO 2
                  go_upto_region 20 with (first | ((with_reducible refine gate_builtin (b := .append) (xs := #[.tmp 102, .tmp 104]) rfl ?_); at_builtin; refine Kd.R_append (Kd.int .i64) (w0 := w) w.heap.size rfl (.tmp 102) (.tmp 104) 23 3 (.int .i64 0) 8 rfl Try.underlying23 info3 rfl (by decide) (by omega) (.slice AF s'.F.length cF) s'.F (x7) [.int .i64 (x7)] (fun k_ => rcl wg.heap.size colwg 2 k_ = 2) (fun _ => False) rfl rfl rfl (fun _ hk => hk.elim) (fun k_ hk => rcl_new hk) (R_col HH.out.hF (fun k_ hk => rcl_old hk)) HB.out HB.out.size (by have := LN.out; omega) ?_; intro v3 wh ho hb hg hat; obtain ⟨Anv3, cnv3, env3⟩ := Kd.R_slice ho; subst env3; rw [List.length_append, List.length_singleton] at ho; have HO19 := (B_gr HH.out.hO HH.out.cO hg HH.out.hF.1 (by decide)).1; have HC3 := Aside0.mk (B_gr BL.out HC.out hg HH.out.hF.1 (by decide)); have HP := HH.out.putF hg ho; have HB2 := Aside0.mk hb; clear ho hb hg hat hco_ hfo_; have hs19 : wh.cell? ⟨gO, 2, none⟩ = some (.slice AF s'.F.length cF) := (blk_cell HO19 2).trans rfl; have hf19 := blk_frozen HO19 2))
                  clear hs19 hf19
                  have hne_ : gl ≠ gO := fun e => by have a1 := HC3.out.2; have a2 := HP.cO; rw [e] at a1; omega
                  have HB3 := Aside0.mk (below_set (g := gO) (j := 2) (v := (.slice Anv3 (s'.F.length + 1) cnv3)) HB2.out HP.bO)
                  have BL2 := Aside0.mk (put_far HC3.out.1 hne_ 2 (.slice Anv3 (s'.F.length + 1) cnv3))
                  have HCN := HC3.out.2
                  clear HH BL HB HC HC3 HB2 HO19
                  generalize hwc : wh.setCell ⟨gO, 2, none⟩ (.slice Anv3 (s'.F.length + 1) cnv3) = wi at HP HB3 BL2 ⊢
                  clear hwc
                  obtain ⟨colwi, hh_, hc_⟩ : ∃ c_, OrbH w.heap.size c_ wi gO gM n' _ _ _ _ _ _ _ ∧ c_ gl = 8 := ⟨_, HP, HCN⟩
                  have HH := Aside0.mk hh_; have HC := Aside0.mk hc_; have BL := BL2; have HB := HB3
                  clear hh_ hc_ BL2 HB3 HP HCN hne_
                  obtain ⟨AB, cB, eB⟩ := Kd.R_slice HH.out.hB
                  subst eB
                  have hco_ : wi.cell? ⟨gO, 3, none⟩ = some (.slice AB s'.B.length cB) := (blk_cell HH.out.hO 3).trans rfl
                  have hfo_ := blk_frozen HH.out.hO 3
                  go_upto_region 21 with (first | ((with_reducible refine gate_builtin (b := .append) (xs := #[.tmp 112, .tmp 114]) rfl ?_); at_builtin; refine Kd.R_append (Kd.int .u8) (w0 := w) w.heap.size rfl (.tmp 112) (.tmp 114) 22 5 (.int .u8 0) 1 rfl Try.underlying22 info5 rfl (by decide) (by omega) (.slice AB s'.B.length cB) s'.B (83) [.int .u8 (83)] (fun k_ => rcl wi.heap.size colwi 3 k_ = 3) (fun _ => False) rfl rfl rfl (fun _ hk => hk.elim) (fun k_ hk => rcl_new hk) (R_col HH.out.hB (fun k_ hk => rcl_old hk)) HB.out HB.out.size (by have := LN.out; omega) ?_; intro v4 wj ho hb hg hat; obtain ⟨Anv4, cnv4, env4⟩ := Kd.R_slice ho; subst env4; rw [List.length_append, List.length_singleton] at ho; have HO19 := (B_gr HH.out.hO HH.out.cO hg HH.out.hB.1 (by decide)).1; have HC3 := Aside0.mk (B_gr BL.out HC.out hg HH.out.hB.1 (by decide)); have HP := HH.out.putB hg ho; have HB2 := Aside0.mk hb; clear ho hb hg hat hco_ hfo_; have hs19 : wj.cell? ⟨gO, 3, none⟩ = some (.slice AB s'.B.length cB) := (blk_cell HO19 3).trans rfl; have hf19 := blk_frozen HO19 3))
                  clear hs19 hf19
                  have hne_ : gl ≠ gO := fun e => by have a1 := HC3.out.2; have a2 := HP.cO; rw [e] at a1; omega
                  have HB3 := Aside0.mk (below_set (g := gO) (j := 3) (v := (.slice Anv4 (s'.B.length + 1) cnv4)) HB2.out HP.bO)
                  have BL2 := Aside0.mk (put_far HC3.out.1 hne_ 3 (.slice Anv4 (s'.B.length + 1) cnv4))
                  have HCN := HC3.out.2
                  clear HH BL HB HC HC3 HB2 HO19
                  generalize hwc : wj.setCell ⟨gO, 3, none⟩ (.slice Anv4 (s'.B.length + 1) cnv4) = wk at HP HB3 BL2 ⊢
                  clear hwc
                  obtain ⟨colwk, hh_, hc_⟩ : ∃ c_, OrbH w.heap.size c_ wk gO gM n' _ _ _ _ _ _ _ ∧ c_ gl = 8 := ⟨_, HP, HCN⟩
                  have HH := Aside0.mk hh_; have HC := Aside0.mk hc_; have BL := BL2; have HB := HB3
                  clear hh_ hc_ BL2 HB3 HP HCN hne_
                  generalize hcc : colwk = colc at HH HC
                  clear hcc
                  go_upto_region 21 with (fail)
                  replace HH := Aside0.mk (HH.out.below (below_drew1 (Below.refl _ _)))
                  replace BL := Aside0.mk (blk_drew BL.out)
                  replace HB := Aside0.mk (below_drew1 HB.out)
                  refine start_ (n := 15) (S := fun w' => w'.cell? ⟨gO, 4, none⟩ = some (.map (some gM)) ∧ w'.heap[gM]? = some (mapO n' vT' vS')) (ds := [14]) (bl_ 15 0) (by kernel_rfl) rfl (by kernel_rfl) ⟨(blk_cell HH.out.hO 4).trans rfl, HH.out.hM⟩ (fun hHeld => ?_)
                  refine with_tabW orb_tab21 orb_bits21 (fun HT_ HW_ => ?_)
                  generalize wk.drew = wl at HH BL HB hHeld ⊢
                  refine pu_ 0 (some 118) (bl_ 15 1) HT_ ?_
                  refine pu_ 1 (some 119) (bl_ 15 3) HT_ ?_
                  refine pu_ 2 (some 120) (bl_ 15 7) HT_ ?_
                  refine ta_ 3 (some 121) (bl_ 15 15) HT_ HW_ hHeld ?_
                  refine pu_ 4 (some 122) (bl_ 15 31) HT_ ?_
                  refine pu_ 5 (some 123) (bl_ 15 63) HT_ ?_
                  refine pu_ 6 (some 124) (bl_ 15 127) HT_ ?_
                  refine pu_ 7 (some 125) (bl_ 15 255) HT_ ?_
                  refine ta_ 8 (some 126) (bl_ 15 511) HT_ HW_ hHeld ?_
                  refine pu_ 9 (some 127) (bl_ 15 1023) HT_ ?_
                  have hlk : ∀ w', w'.heap[gM]? = some (mapO n' vT' vS') → (Instr.lookup 67 (.map (some gM)) (.int .u8 83) false).run Try.prog w' = .ok vS' w' := fun w' h_ => by
                    have hn := hn0.out
                    have := look_S h_ (by omega)
                    rw [HH.out.look.2] at this
                    exact this
                  refine ta_ 10 (some 128) (v := vS') (bl_ 15 2047) HT_ HW_ hHeld ?_ (hy := Or.inl ⟨by rfl, fun w' hs_ => ?_⟩)
                  rotate_left
                  · have hq := hlk w' hs_.2
                    go_simp
                  clear hlk
                  refine pu_ 11 (some 129) (bl_ 15 4095) HT_ ?_
                  refine on_ 12 (some 130) (bl_ 15 8191) HT_ (fun K hK => ?_)
                  refine value_ (w1 := ?_) (v := ?_) (by rfl) rfl ?_ ?_
                  rotate_left 2
                  · go_simp
                    constructor
                    · rfl
                    · rfl
                  refine hK.out _ _ ⟨((below_alloc (Below.refl _ _) _).cell (World.block_lt_of_cell? _ _ hHeld.1)).trans hHeld.1, blk_alloc hHeld.2 _⟩ (fun hHeld => ?_)
                  clear hK K
                  refine no_ (some 130) ?_
                  refine on_ 13 (some 131) (bl_ 15 16383) HT_ (fun K hK => ?_)
                  refine Kd.R_append_step (Kd.int .i64) (w0 := w) w.heap.size (by rfl) (.tmp 128) (.tmp 130) 23 3 (.int .i64 0) 8 rfl Try.underlying23 info3 rfl (by decide) (by omega) vS' s'.S ((s'.L.length : Int)) [.int .i64 ((s'.L.length : Int))] (fun k_ => rcl wl.heap.size colc 5 k_ = 5) (fun _ => False) rfl rfl rfl (fun _ hk => hk.elim) (fun k_ hk => rcl_new hk) (R_col HH.out.hS (fun k_ hk => rcl_old hk)) HB.out HB.out.size (by have := LN.out; omega) ?_
                  intro v1 wlb ho hb hg hat
                  have HP := HH.out.putS hn0.out hg ho
                  have HM := Aside0.mk HP.1
                  have HO19 := (B_gr HH.out.hO HH.out.cO hg HH.out.hS.1 (by decide)).1
                  have HC3 := Aside0.mk (B_gr BL.out HC.out hg HH.out.hS.1 (by decide))
                  replace HH := Aside0.mk HP.2
                  clear HP
                  have HB2 := Aside0.mk hb
                  refine hK.out _ _ ⟨(blk_cell HO19 4).trans rfl, HM.out⟩ (fun hHeld => ?_)
                  clear hK K ho hb hg hat HO19
                  refine no_ (some 131) ?_
                  refine last_ (i := 14) (N := none) (bl_ 15 32767) rfl rfl (one_of HT_.out (by kernel_rfl)) (by decide) (fun K hK => ?_)
                  have hput : (Instr.mapUpdate 67 (.map (some gM)) (.int .u8 83) v1).run Try.prog wlb = .ok () (setMap wlb gM 2 vT' v1) := put_S HM.out hn0.out v1
                  refine skip_ (w1 := setMap wlb gM 2 vT' v1) (by rfl) rfl ?_ ?_
                  · go_simp
                  refine hK.out _ _ ?_
                  clear hK K hput
                  refine done_ (done_of HT_.out (by kernel_rfl)) ?_
                  try go_wp2
                  have hgm : gl ≠ gM := fun e => by have a1 := HC3.out.2; have a2 := HH.out.cM; rw [e] at a1; omega
                  have BL2 := Aside0.mk ((setMap_far (n := 2) vT' v1 hgm).trans HC3.out.1)
                  have HB3 := Aside0.mk (setMap_below (n := 2) vT' v1 HB2.out HH.out.bM)
                  go_roundg 0
                  case measure => have := HG.out; omega
                  case rel => exact ⟨2, 2, _, _, _, _, _, _, _, _, (by first | rfl | (simp; done) | (simp [*]; done)), ⟨by omega⟩, ⟨by omega⟩, HT, ⟨⟨fun e => absurd e (by decide), fun e => absurd e (by decide), fun _ => rfl⟩⟩, ⟨HC3.out.2⟩, BL2, HH, HB3⟩
              · have H := HS.out
                clear HS
                rw [if_neg hj0] at H
                have hjb := decide_eq_false hj0
                have hlen := cp_ H
                replace H := Option.some.inj (ca_ H)
                subst H
                rw [if_neg (by decide), if_neg (by decide)] at HT
                have LN := Aside0.mk hlen
                clear hlen SL13 Y0 Y1 BX NE GX
                generalize hcc : rcl w13.heap.size col' 0 = colc at HH HC
                clear hcc
                go_upto_region 21 with (fail)
                replace HH := Aside0.mk (HH.out.below (below_drew1 (Below.refl _ _)))
                replace BL := Aside0.mk (blk_drew BL.out)
                replace HB := Aside0.mk (below_drew1 HB.out)
                refine start_ (n := 15) (S := fun w' => w'.cell? ⟨gO, 4, none⟩ = some (.map (some gM)) ∧ w'.heap[gM]? = some (mapO n' vT' vS')) (ds := [14]) (bl_ 15 0) (by kernel_rfl) rfl (by kernel_rfl) ⟨(blk_cell HH.out.hO 4).trans rfl, HH.out.hM⟩ (fun hHeld => ?_)
                refine with_tabW orb_tab21 orb_bits21 (fun HT_ HW_ => ?_)
                generalize w17.drew = w18 at HH BL HB hHeld ⊢
                refine pu_ 0 (some 118) (bl_ 15 1) HT_ ?_
                refine pu_ 1 (some 119) (bl_ 15 3) HT_ ?_
                refine pu_ 2 (some 120) (bl_ 15 7) HT_ ?_
                refine ta_ 3 (some 121) (bl_ 15 15) HT_ HW_ hHeld ?_
                refine pu_ 4 (some 122) (bl_ 15 31) HT_ ?_
                refine pu_ 5 (some 123) (bl_ 15 63) HT_ ?_
                refine pu_ 6 (some 124) (bl_ 15 127) HT_ ?_
                refine pu_ 7 (some 125) (bl_ 15 255) HT_ ?_
                refine ta_ 8 (some 126) (bl_ 15 511) HT_ HW_ hHeld ?_
                refine pu_ 9 (some 127) (bl_ 15 1023) HT_ ?_
                have hlk : ∀ w', w'.heap[gM]? = some (mapO n' vT' vS') → (Instr.lookup 67 (.map (some gM)) (.int .u8 83) false).run Try.prog w' = .ok vS' w' := fun w' h_ => by
                  have hn := hn0.out
                  have := look_S h_ (by omega)
                  rw [HH.out.look.2] at this
                  exact this
                refine ta_ 10 (some 128) (v := vS') (bl_ 15 2047) HT_ HW_ hHeld ?_ (hy := Or.inl ⟨by rfl, fun w' hs_ => ?_⟩)
                rotate_left
                · have hq := hlk w' hs_.2
                  go_simp
                clear hlk
                refine pu_ 11 (some 129) (bl_ 15 4095) HT_ ?_
                refine on_ 12 (some 130) (bl_ 15 8191) HT_ (fun K hK => ?_)
                refine value_ (w1 := ?_) (v := ?_) (by rfl) rfl ?_ ?_
                rotate_left 2
                · go_simp
                  constructor
                  · rfl
                  · rfl
                refine hK.out _ _ ⟨((below_alloc (Below.refl _ _) _).cell (World.block_lt_of_cell? _ _ hHeld.1)).trans hHeld.1, blk_alloc hHeld.2 _⟩ (fun hHeld => ?_)
                clear hK K
                refine no_ (some 130) ?_
                refine on_ 13 (some 131) (bl_ 15 16383) HT_ (fun K hK => ?_)
                refine Kd.R_append_step (Kd.int .i64) (w0 := w) w.heap.size (by rfl) (.tmp 128) (.tmp 130) 23 3 (.int .i64 0) 8 rfl Try.underlying23 info3 rfl (by decide) (by omega) vS' s'.S (j) [.int .i64 (j)] (fun k_ => rcl w18.heap.size colc 5 k_ = 5) (fun _ => False) rfl rfl rfl (fun _ hk => hk.elim) (fun k_ hk => rcl_new hk) (R_col HH.out.hS (fun k_ hk => rcl_old hk)) HB.out HB.out.size (by have := LN.out; omega) ?_
                intro v1 w18b ho hb hg hat
                have HP := HH.out.putS hn0.out hg ho
                have HM := Aside0.mk HP.1
                have HO19 := (B_gr HH.out.hO HH.out.cO hg HH.out.hS.1 (by decide)).1
                have HC3 := Aside0.mk (B_gr BL.out HC.out hg HH.out.hS.1 (by decide))
                replace HH := Aside0.mk HP.2
                clear HP
                have HB2 := Aside0.mk hb
                refine hK.out _ _ ⟨(blk_cell HO19 4).trans rfl, HM.out⟩ (fun hHeld => ?_)
                clear hK K ho hb hg hat HO19
                refine no_ (some 131) ?_
                refine last_ (i := 14) (N := none) (bl_ 15 32767) rfl rfl (one_of HT_.out (by kernel_rfl)) (by decide) (fun K hK => ?_)
                have hput : (Instr.mapUpdate 67 (.map (some gM)) (.int .u8 83) v1).run Try.prog w18b = .ok () (setMap w18b gM 2 vT' v1) := put_S HM.out hn0.out v1
                refine skip_ (w1 := setMap w18b gM 2 vT' v1) (by rfl) rfl ?_ ?_
                · go_simp
                refine hK.out _ _ ?_
                clear hK K hput
                refine done_ (done_of HT_.out (by kernel_rfl)) ?_
                try go_wp2
                have hgm : gl ≠ gM := fun e => by have a1 := HC3.out.2; have a2 := HH.out.cM; rw [e] at a1; omega
                have BL2 := Aside0.mk ((setMap_far (n := 2) vT' v1 hgm).trans HC3.out.1)
                have HB3 := Aside0.mk (setMap_below (n := 2) vT' v1 HB2.out HH.out.bM)
                go_roundg 0
                case measure => have := HG.out; omega
                case rel => exact ⟨2, 2, _, _, _, _, _, _, _, _, (by first | rfl | (simp; done) | (simp [*]; done)), ⟨by omega⟩, ⟨by omega⟩, HT, ⟨⟨fun e => absurd e (by decide), fun e => absurd e (by decide), fun _ => rfl⟩⟩, ⟨HC3.out.2⟩, BL2, HH, HB3⟩
          · have hj2' : jj = 2 := by omega
            subst hj2'
            have hn2 := Aside0.mk (HN.out.2.2 rfl)
            have H := AZ.out
            clear AZ
            change innerO k1 x7 [] s' = some z at H
            simp only [innerO] at H
            obtain rfl := Option.some.inj H
            clear H
            clear hcl0 hcl1 hfl0 hfl1 hco0 hfo0
            go_wp2
            go_roundg k1
            case measure => have := HK.out; omega
            case rel => exact ⟨wrap64 (x7 + 1), n', _, _, _, _, _, _, _, s', (by first | rfl | (simp; done) | (simp [*]; done)), HR, ⟨by have := HK.out; omega⟩, ⟨.inr hn2.out⟩, HH, HB⟩
      · rw [if_neg hq1] at H
        have c1b := decide_eq_false hq1
        obtain rfl := Option.some.inj H
        clear H hq1
        go_wp2
        go_ret2
        exact ⟨gO, gM, n, col, _, _, _, _, _, _, rfl, HH.out, HB.out⟩
theorem orbit_calls (k : Nat) (A0 : Option Addr) (c0 : Nat) (l0 : List Int) (A1 : Option Addr) (c1 : Nat) (l1 : List Int) (R : Option Orb) (w : World) (h0 : Kd.C (Kd.int .i64) w A0 l0.length l0) (g0 : l0.length ≤ c0) (h1 : Kd.C (Kd.int .i64) w A1 l1.length l1) (g1 : l1.length ≤ c1) (h : orbitO k l0 l1 = some R) :
    Calls Try.prog 59 #[.agg #[.slice A0 l0.length c0, .slice A1 l1.length c1]] w fun e w' => OrbPost w w' e R := by
  unfold orbitO at h
  obtain ⟨⟨y1, y2, yb⟩, a, h⟩ := Option.bind_eq_some_iff.mp h
  cases yb with
  | false =>
    have e : none = R := Option.some.inj h
    subst e
    exact orbit_no k A0 c0 l0 A1 c1 l1 y1 y2 w h0 g0 h1 g1 a
  | true => exact orbit_yes k A0 c0 l0 A1 c1 l1 y1 y2 R w h0 g0 h1 g1 a h
end Go.Proofs.Ytcggfjpnfodbaaa.M
end
section
/- Finding the orbit: more rounds give the same answer. No conditions. -/
namespace Go.Proofs.Ytcggfjpnfodbaaa.M
set_option linter.unusedVariables false
set_option linter.unusedSimpArgs false
open Go Go.RowKit Go.Proofs.YtcggfjpnfodbaaaW.PrintWords Go.Proofs.YtcggfjpnfodbaaaW.PrintLast Go.Proofs.YtcggfjpnfodbaaaW.PrintMore Go.Proofs.Ytcggfjpnfodbaaa.A
theorem idxS_mono (k : Nat) (r u : List Int) : ∀ (l : List S25) (i : Nat), LeO (idxS k r u l i) (idxS (k + 1) r u l i) := by
  intro l
  induction l with
  | nil => intro i; exact LeO.refl _
  | cons x l ih =>
    intro i
    unfold idxS
    refine LeO.bind (impl_SameSurface.mono _ _ _ _ _) (fun b => LeO.ite (LeO.refl _) (ih _))
theorem indexO_mono (k : Nat) (l : List S25) (r u : List Int) : LeO (indexO k l r u) (indexO (k + 1) l r u) := by
  unfold indexO
  exact LeO.ite (idxS_mono _ _ _ _ _) (LeO.refl _)
theorem stpO_mono (k : Nat) (i c : Int) (s : Orb) : LeO (stpO k i c s) (stpO (k + 1) i c s) := by
  unfold stpO
  refine LeO.ite (LeO.ite (LeO.bind (impl_letterSurface.mono _ _ _ _) (fun x => LeO.bind (impl_CanonOf.mono _ _ _) (fun y => LeO.bind (indexO_mono _ _ _ _) (fun j => LeO.refl _)))) (LeO.refl _)) (LeO.refl _)
theorem innerO_mono (k : Nat) (i : Int) : ∀ (cs : List Int) (s : Orb), LeO (innerO k i cs s) (innerO (k + 1) i cs s) := by
  intro cs
  induction cs with
  | nil => intro s; exact LeO.refl _
  | cons c cs ih =>
    intro s
    unfold innerO
    refine LeO.bind (stpO_mono _ _ _ _) (fun z => ?_)
    cases z with
    | none => exact LeO.refl _
    | some s' => exact ih s'
theorem loopO_mono : ∀ (k : Nat) (s : Orb) (i : Int), LeO (loopO k s i) (loopO (k + 1) s i) := by
  intro k
  induction k with
  | zero => intro s i; exact LeO.none _
  | succ k ih =>
    intro s i
    rw [loopO, loopO]
    refine LeO.ite (LeO.bind (innerO_mono _ _ _ _) (fun z => ?_)) (LeO.refl _)
    cases z with
    | none => exact LeO.refl _
    | some s' => exact ih s' _
theorem orbitO_mono (k : Nat) (r u : List Int) : LeO (orbitO k r u) (orbitO (k + 1) r u) := by
  unfold orbitO
  exact LeO.bind (impl_CanonOf.mono _ _ _) (fun y => LeO.ite (loopO_mono _ _ _) (LeO.refl _))
end Go.Proofs.Ytcggfjpnfodbaaa.M
end
section
namespace Go.Proofs.Ytcggfjpnfodbaaa.A
open Go.RowKit Go.Proofs.YtcggfjpnfodbaaaW.PrintWords Go.Proofs.YtcggfjpnfodbaaaW.PrintLast Go.Proofs.YtcggfjpnfodbaaaW.PrintMore
attribute [local go_sem] max2_int min2_int max_two min_two max_three min_three max_four min_four
set_option linter.unusedVariables false
set_option linter.unusedSimpArgs false
def impl_IndexOf.f (k : Nat) (r u : List Int) : Option Int := (M.orbitO k r u).bind fun z => match z with | none => some (-1) | some s => some (s.L.length : Int)
theorem impl_IndexOf.mono : ∀ a0 a1 k, LeO (impl_IndexOf.f k a0 a1) (impl_IndexOf.f (k + 1) a0 a1) := by
  intro a0 a1 k
  unfold impl_IndexOf.f
  exact LeO.bind (M.orbitO_mono _ _ _) (fun z => LeO.refl _)
set_option maxHeartbeats 8000000 in
set_option maxRecDepth 100000 in
theorem impl_IndexOf.calls (k : Nat) (A0_0 : Option Addr) (c0_0 : Nat) (l0_0 : List Int) (A0_1 : Option Addr) (c0_1 : Nat) (l0_1 : List Int) (r : Int) (w : World) (hr0_0 : Kd.C (Kd.int .i64) w A0_0 l0_0.length l0_0) (hc0_0 : l0_0.length ≤ c0_0) (hr0_1 : Kd.C (Kd.int .i64) w A0_1 l0_1.length l0_1) (hc0_1 : l0_1.length ≤ c0_1) (h : impl_IndexOf.f k l0_0 l0_1 = some r) :
    Calls Try.prog 19 #[.agg #[.slice A0_0 l0_0.length c0_0, .slice A0_1 l0_1.length c0_1]] w fun e w' => e = .returned (.int .i64 r) ∧ Below w.heap.size w w' := by
  have hu := Try.underlying25
  have HR0_0 := Aside0.mk hr0_0; have HC0_0 := Aside0.mk hc0_0; clear hr0_0 hc0_0
  have HR0_1 := Aside0.mk hr0_1; have HC0_1 := Aside0.mk hc0_1; clear hr0_1 hc0_1
  have HB := Aside0.mk (Below.refl w.heap.size w)
  have H := h
  unfold impl_IndexOf.f at H
  clear h
  obtain ⟨z, AZ, H⟩ := bi_ H
  cases z with
  | none =>
    obtain rfl := Option.some.inj H
    go_enter Try.func19, Try.ntmps19
    go_wp2_with (first | ((with_reducible refine gate_dst (N := 1) rfl ?_); refine bx_ 1 #[.slice A0_0 l0_0.length c0_0, .slice A0_1 l0_1.length c0_1] 25 ?_; intro gs hg wgs hbox hb; have Bgs := Aside0.mk hbox; replace HB := b1_ hb; clear hb hbox hg; have hczgs0 := cz0_ Bgs; have hczgs1 := cz1_ Bgs; have hfzgs0 := blk_frozen Bgs.out 0; have hfzgs1 := blk_frozen Bgs.out 1) | ((with_reducible refine gate_callee (f := 59) rfl ?_); refine gL_ (some 7) Try.func59 #[.agg #[.slice A0_0 l0_0.length c0_0, .slice A0_1 l0_1.length c0_1]] rfl qa_ ?_; (with_reducible refine (M.orbit_calls k _ _ l0_0 _ _ l0_1 none _ (cb_ HR0_0) HC0_0.out (cb_ HR0_1) HC0_1.out AZ.out).mono ?_); rintro e wz ⟨rfl, hb⟩; refine ⟨_, rfl, ?_⟩; replace HB := b1_ hb; clear hb))
    go_ret
    exact ⟨qb_, hB_⟩
  | some s =>
    obtain rfl := Option.some.inj H
    go_enter Try.func19, Try.ntmps19
    go_wp2_with (first | ((with_reducible refine gate_dst (N := 1) rfl ?_); refine bx_ 1 #[.slice A0_0 l0_0.length c0_0, .slice A0_1 l0_1.length c0_1] 25 ?_; intro gs hg wgs hbox hb; have Bgs := Aside0.mk hbox; replace HB := b1_ hb; clear hb hbox hg; have hczgs0 := cz0_ Bgs; have hczgs1 := cz1_ Bgs; have hfzgs0 := blk_frozen Bgs.out 0; have hfzgs1 := blk_frozen Bgs.out 1) | ((with_reducible refine gate_callee (f := 59) rfl ?_); refine gL_ (some 7) Try.func59 #[.agg #[.slice A0_0 l0_0.length c0_0, .slice A0_1 l0_1.length c0_1]] rfl qa_ ?_; (with_reducible refine (M.orbit_calls k _ _ l0_0 _ _ l0_1 (some s) _ (cb_ HR0_0) HC0_0.out (cb_ HR0_1) HC0_1.out AZ.out).mono ?_); rintro e wz ⟨gO, gM, nm_, col, vL, vW, vF, vB, vT, vS, rfl, hh, hb⟩; refine ⟨_, rfl, ?_⟩; replace HB := b1_ hb; have HH := Aside0.mk hh; clear hb hh; obtain ⟨AL, cL, eL⟩ := Kd.S_slice HH.out.hL; subst eL; obtain ⟨AW, cW, eW⟩ := Kd.R_slice HH.out.hW; subst eW; have hco0 : wz.cell? ⟨gO, 0, none⟩ = some (.slice AL s.L.length cL) := (blk_cell HH.out.hO 0).trans rfl; have hco1 : wz.cell? ⟨gO, 1, none⟩ = some (.slice AW s.W.length cW) := (blk_cell HH.out.hO 1).trans rfl; have hfo0 := blk_frozen HH.out.hO 0; have hfo1 := blk_frozen HH.out.hO 1))
    go_ret
    exact ⟨qb_, hB_⟩
end Go.Proofs.Ytcggfjpnfodbaaa.A
end
section
namespace Go.Proofs.Ytcggfjpnfodbaaa.A
open Go.RowKit Go.Proofs.YtcggfjpnfodbaaaW.PrintWords Go.Proofs.YtcggfjpnfodbaaaW.PrintLast Go.Proofs.YtcggfjpnfodbaaaW.PrintMore
attribute [local go_sem] max2_int min2_int max_two min_two max_three min_three max_four min_four
set_option linter.unusedVariables false
set_option linter.unusedSimpArgs false
def impl_IsFullGroup.f (k : Nat) (l0_0 : List Int) (l0_1 : List Int) : Option (Bool) := (impl_IndexOf.f k l0_0 l0_1).bind fun t1081 => (some (t1081 == 1))
theorem impl_IsFullGroup.mono : ∀ a0 a1 k, LeO (impl_IsFullGroup.f k a0 a1) (impl_IsFullGroup.f (k + 1) a0 a1) := by
  intro a0 a1 k
  unfold impl_IsFullGroup.f
  repeat' first|exact impl_IndexOf.mono _ _ _|exact lo_|refine LeO.ite ?_ ?_|refine LeO.bind ?_ (fun _ => ?_)
set_option maxHeartbeats 8000000 in
set_option maxRecDepth 100000 in
theorem impl_IsFullGroup.calls (k : Nat) (A0_0 : Option Addr) (c0_0 : Nat) (l0_0 : List Int) (A0_1 : Option Addr) (c0_1 : Nat) (l0_1 : List Int) (r : Bool) (w : World) (hr0_0 : Kd.C (Kd.int .i64) w A0_0 l0_0.length l0_0) (hc0_0 : l0_0.length ≤ c0_0) (hr0_1 : Kd.C (Kd.int .i64) w A0_1 l0_1.length l0_1) (hc0_1 : l0_1.length ≤ c0_1) (h : impl_IsFullGroup.f k l0_0 l0_1 = some r) :
    Calls Try.prog 38 #[.agg #[.slice A0_0 l0_0.length c0_0, .slice A0_1 l0_1.length c0_1]] w fun e w' => e = .returned (.bool r) ∧ Below w.heap.size w w' := by
  have hu25 := Try.underlying25
  have HR0_0 := Aside0.mk hr0_0
  have HC0_0 := Aside0.mk hc0_0
  clear hr0_0 hc0_0
  have HR0_1 := Aside0.mk hr0_1
  have HC0_1 := Aside0.mk hc0_1
  clear hr0_1 hc0_1
  have HB := Aside0.mk (Below.refl w.heap.size w)
  have H := h
  unfold impl_IsFullGroup.f at H
  clear h
  obtain ⟨t1081, A2, H⟩ := bi_ H
  obtain rfl := Option.some.inj H
  go_enter Try.func38, Try.ntmps38
  go_wp2_with (first | ((with_reducible refine gate_dst (N := 1) rfl ?_); refine bx_ 1 #[.slice A0_0 l0_0.length c0_0, .slice A0_1 l0_1.length c0_1] 25 ?_; intro gb1080 hg w3 hbox hb; have BK1080 := Aside0.mk hbox; have GW1080 := gw_ w hg; have GE1080 := GW1080; replace HB := b1_ hb; clear hb hbox hg; obtain ⟨hcz4_0, hcz4_1, hfz4_0, hfz4_1⟩ := c2_ BK1080) | ((with_reducible refine gate_callee (f := 19) rfl ?_); refine gL_ (some 4) Try.func19 #[.agg #[.slice A0_0 l0_0.length c0_0, .slice A0_1 l0_1.length c0_1]] rfl qa_ ?_; (with_reducible refine (impl_IndexOf.calls k _ _ l0_0 _ _ l0_1 t1081 _ (cb_ HR0_0) HC0_0.out (cb_ HR0_1) HC0_1.out A2.out).mono ?_); rintro e w5 ⟨rfl, hb⟩; refine ⟨_, rfl, ?_⟩; replace BK1080 := bb_ BK1080 hb; replace HB := b1_ hb; clear hb))
  go_ret
  exact ⟨qb_, hB_⟩
end Go.Proofs.Ytcggfjpnfodbaaa.A
end
section
namespace Go.Proofs.Ytcggfjpnfodbaaa.A
open Go.RowKit Go.Proofs.YtcggfjpnfodbaaaW.PrintWords Go.Proofs.YtcggfjpnfodbaaaW.PrintLast Go.Proofs.YtcggfjpnfodbaaaW.PrintMore Go.Proofs.Ytcggfjpnfodbaaa.M
set_option linter.unusedVariables false
set_option linter.unusedSimpArgs false
def laws_FnExactIsFullGroup.F (k : Nat) (l0_0 : List Int) (l0_1 : List Int) : Prop := ∃ s0 : Int, laws_szSurface.f l0_0 l0_1 1048576 = some s0 ∧ (s0 < 0 ∨ (¬ s0 < 0 ∧ (∃ (r0 : Bool), laws_toSurface.f k l0_0 l0_1 = some (l0_0, l0_1) ∧ laws_eqSurface.f k l0_0 l0_1 l0_0 l0_1 = some true ∧ spec_IsFullGroup.f k l0_0 l0_1 = some r0 ∧ impl_IsFullGroup.f k l0_0 l0_1 = some r0)))
set_option maxHeartbeats 8000000 in
set_option maxRecDepth 100000 in
theorem laws_FnExactIsFullGroup.calls (k : Nat) (A0_0 : Option Addr) (c0_0 : Nat) (l0_0 : List Int) (A0_1 : Option Addr) (c0_1 : Nat) (l0_1 : List Int) (w : World) (hr0_0 : Kd.C (Kd.int .i64) w A0_0 l0_0.length l0_0) (hc0_0 : l0_0.length ≤ c0_0) (hr0_1 : Kd.C (Kd.int .i64) w A0_1 l0_1.length l0_1) (hc0_1 : l0_1.length ≤ c0_1) (h : laws_FnExactIsFullGroup.F k l0_0 l0_1) :
    Calls Try.prog 8 #[.agg #[.slice A0_0 l0_0.length c0_0, .slice A0_1 l0_1.length c0_1]] w fun e w' => e = .returned (.bool true) ∧ Below w.heap.size w w' := by
  have hu25 := Try.underlying25
  have hu44 := Try.underlying44
  have HR0_0 := Aside0.mk hr0_0; have HC0_0 := Aside0.mk hc0_0; clear hr0_0 hc0_0
  have HR0_1 := Aside0.mk hr0_1; have HC0_1 := Aside0.mk hc0_1; clear hr0_1 hc0_1
  have HB := Aside0.mk (Below.refl w.heap.size w)
  unfold laws_FnExactIsFullGroup.F at h
  obtain ⟨s0, FZ0, h⟩ := h
  replace FZ0 := Aside0.mk FZ0
  rcases h with hneg | ⟨hneg, h⟩
  · have hq0 : decide (s0 < 0) = true := decide_eq_true hneg
    go_enter Try.func8, Try.ntmps8
    go_upto_region 2 with (first | ((with_reducible refine gate_dst (N := 1) rfl ?_); refine bx_ 1 #[.slice A0_0 l0_0.length c0_0, .slice A0_1 l0_1.length c0_1] 44 ?_; intro gbp0 hg w1 hbox hb; have HBo := HB.out; have n_ := Aside0.mk (below_then HBo HBo.size hb); clear HB; have HB := n_; clear n_; have HSw1 := Aside0.mk hb.size; have BKp0 := Aside0.mk hbox; have GIp0 := Aside0.mk (show w.heap.size ≤ gbp0 ∧ gbp0 < w1.heap.size from ⟨by omega, blk_lt hbox⟩); have GEp0 := Aside0.mk (show w.heap.size ≤ gbp0 from by have := HBo.size; omega); clear hb hbox hg HBo; obtain ⟨hczp0_0, hczp0_1, hfzp0_0, hfzp0_1⟩ := c2_ BKp0))
    go_wp2_with (first | ((with_reducible refine gate_callee (f := 31) rfl ?_); refine goesL_ _ rfl rfl Try.func31 (by kernel_rfl) rfl #[.agg #[.slice A0_0 l0_0.length c0_0, .slice A0_1 l0_1.length c0_1], .int .i64 1048576] rfl (by (try simp only [List.map_toArray, List.map_cons, List.map_nil]); first | done | rfl) ?_; have HBo := HB.out; refine (laws_szSurface.calls A0_0 c0_0 l0_0 A0_1 c0_1 l0_1 1048576 s0 _ (Kd.C_below HR0_0.out HB.out) HC0_0.out (Kd.C_below HR0_1.out HB.out) HC0_1.out FZ0.out).mono ?_; rintro e w2 ⟨rfl, hb0⟩; refine ⟨_, rfl, ?_⟩; clear hczp0_0 hfzp0_0 hczp0_1 hfzp0_1; have n_ := Aside0.mk (blk_below BKp0.out hb0); clear BKp0; have BKp0 := n_; clear n_; have n_ := Aside0.mk (below_then HBo HBo.size hb0); clear HB; have HB := n_; clear n_; have HSw2 := Aside0.mk hb0.size; clear hb0 HBo; obtain ⟨hczp0_0, hczp0_1, hfzp0_0, hfzp0_1⟩ := c2_ BKp0))
    go_ret
    exact ⟨rfl, HB.out⟩
  have hq0 : decide (s0 < 0) = false := decide_eq_false hneg
  clear hneg
  obtain ⟨r0, FS0, FE0, FW, FG⟩ := h
  replace FS0 := Aside0.mk FS0
  replace FE0 := Aside0.mk FE0
  replace FW := Aside0.mk FW
  replace FG := Aside0.mk FG
  go_enter Try.func8, Try.ntmps8
  go_upto_region 2 with (first | ((with_reducible refine gate_dst (N := 1) rfl ?_); refine bx_ 1 #[.slice A0_0 l0_0.length c0_0, .slice A0_1 l0_1.length c0_1] 44 ?_; intro gbp0 hg w1 hbox hb; have HBo := HB.out; have n_ := Aside0.mk (below_then HBo HBo.size hb); clear HB; have HB := n_; clear n_; have HSw1 := Aside0.mk hb.size; have BKp0 := Aside0.mk hbox; have GIp0 := Aside0.mk (show w.heap.size ≤ gbp0 ∧ gbp0 < w1.heap.size from ⟨by omega, blk_lt hbox⟩); have GEp0 := Aside0.mk (show w.heap.size ≤ gbp0 from by have := HBo.size; omega); clear hb hbox hg HBo; obtain ⟨hczp0_0, hczp0_1, hfzp0_0, hfzp0_1⟩ := c2_ BKp0))
  go_upto_region 5 with (first | ((with_reducible refine gate_callee (f := 31) rfl ?_); refine goesL_ _ rfl rfl Try.func31 (by kernel_rfl) rfl #[.agg #[.slice A0_0 l0_0.length c0_0, .slice A0_1 l0_1.length c0_1], .int .i64 1048576] rfl (by (try simp only [List.map_toArray, List.map_cons, List.map_nil]); first | done | rfl) ?_; have HBo := HB.out; refine (laws_szSurface.calls A0_0 c0_0 l0_0 A0_1 c0_1 l0_1 1048576 s0 _ (Kd.C_below HR0_0.out HB.out) HC0_0.out (Kd.C_below HR0_1.out HB.out) HC0_1.out FZ0.out).mono ?_; rintro e w2 ⟨rfl, hb0⟩; refine ⟨_, rfl, ?_⟩; clear hczp0_0 hfzp0_0 hczp0_1 hfzp0_1; have n_ := Aside0.mk (blk_below BKp0.out hb0); clear BKp0; have BKp0 := n_; clear n_; have n_ := Aside0.mk (below_then HBo HBo.size hb0); clear HB; have HB := n_; clear n_; have HSw2 := Aside0.mk hb0.size; clear hb0 HBo; obtain ⟨hczp0_0, hczp0_1, hfzp0_0, hfzp0_1⟩ := c2_ BKp0))
  go_upto_region 6 with (first | ((with_reducible refine gate_callee (f := 33) rfl ?_); refine goesL_ _ rfl rfl Try.func33 (by kernel_rfl) rfl #[.agg #[.slice A0_0 l0_0.length c0_0, .slice A0_1 l0_1.length c0_1]] rfl (by (try simp only [List.map_toArray, List.map_cons, List.map_nil]); first | done | rfl) ?_; have HBo := HB.out; refine (laws_toSurface.calls k A0_0 c0_0 l0_0 A0_1 c0_1 l0_1 l0_0 l0_1 _ (Kd.C_below HR0_0.out HB.out) HC0_0.out (Kd.C_below HR0_1.out HB.out) HC0_1.out FS0.out).mono ?_; rintro e w3 ⟨v0_, v1_, rfl, h0_, h1_, hb0⟩; refine ⟨_, rfl, ?_⟩; clear hczp0_0 hfzp0_0 hczp0_1 hfzp0_1; have n_ := Aside0.mk (blk_below BKp0.out hb0); clear BKp0; have BKp0 := n_; clear n_; have n_ := Aside0.mk (below_then HBo HBo.size hb0); clear HB; have HB := n_; clear n_; have HSw3 := Aside0.mk hb0.size; have NE1 := Aside0.mk h0_.1; have Hx1a := Aside0.mk (fresh_R (b0 := w.heap.size) h0_ HBo.size); clear h0_; obtain ⟨Ax1a, cx1a, ex1a⟩ := Kd.R_slice Hx1a.out; subst ex1a; have Hx1b := Aside0.mk (fresh_R (b0 := w.heap.size) h1_ HBo.size); clear h1_; obtain ⟨Ax1b, cx1b, ex1b⟩ := Kd.R_slice Hx1b.out; subst ex1b; clear hb0 HBo; obtain ⟨hczp0_0, hczp0_1, hfzp0_0, hfzp0_1⟩ := c2_ BKp0) | ((with_reducible refine gate_callee (f := 37) rfl ?_); refine goesL_ _ rfl rfl Try.func37 (by kernel_rfl) rfl #[.agg #[.slice Ax1a l0_0.length cx1a, .slice Ax1b l0_1.length cx1b]] rfl (by (try simp only [List.map_toArray, List.map_cons, List.map_nil]); first | done | rfl) ?_; have HBo := HB.out; refine (spec_IsFullGroup.calls k Ax1a cx1a l0_0 Ax1b cx1b l0_1 r0 _ (Kd.R_reads' Hx1a.out).2.2 (Kd.R_reads' Hx1a.out).2.1 (Kd.R_reads' Hx1b.out).2.2 (Kd.R_reads' Hx1b.out).2.1 FW.out).mono ?_; rintro e w4 ⟨rfl, hb0⟩; refine ⟨_, rfl, ?_⟩; clear hczp0_0 hfzp0_0 hczp0_1 hfzp0_1; have n_ := Aside0.mk (blk_below BKp0.out hb0); clear BKp0; have BKp0 := n_; clear n_; have n_ := Aside0.mk (Kd.R_below Hx1a.out hb0); clear Hx1a; have Hx1a := n_; clear n_; have n_ := Aside0.mk (Kd.R_below Hx1b.out hb0); clear Hx1b; have Hx1b := n_; clear n_; have n_ := Aside0.mk (below_then HBo HBo.size hb0); clear HB; have HB := n_; clear n_; have HSw4 := Aside0.mk hb0.size; clear hb0 HBo; obtain ⟨hczp0_0, hczp0_1, hfzp0_0, hfzp0_1⟩ := c2_ BKp0; clear Hx1a Hx1b))
  go_upto_region 7 with (first | ((with_reducible refine gate_callee (f := 33) rfl ?_); refine goesL_ _ rfl rfl Try.func33 (by kernel_rfl) rfl #[.agg #[.slice A0_0 l0_0.length c0_0, .slice A0_1 l0_1.length c0_1]] rfl (by (try simp only [List.map_toArray, List.map_cons, List.map_nil]); first | done | rfl) ?_; have HBo := HB.out; refine (laws_toSurface.calls k A0_0 c0_0 l0_0 A0_1 c0_1 l0_1 l0_0 l0_1 _ (Kd.C_below HR0_0.out HB.out) HC0_0.out (Kd.C_below HR0_1.out HB.out) HC0_1.out FS0.out).mono ?_; rintro e w5 ⟨v0_, v1_, rfl, h0_, h1_, hb0⟩; refine ⟨_, rfl, ?_⟩; clear hczp0_0 hfzp0_0 hczp0_1 hfzp0_1; have n_ := Aside0.mk (blk_below BKp0.out hb0); clear BKp0; have BKp0 := n_; clear n_; have n_ := Aside0.mk (below_then HBo HBo.size hb0); clear HB; have HB := n_; clear n_; have HSw5 := Aside0.mk hb0.size; have NE2 := Aside0.mk h0_.1; have Hx2a := Aside0.mk (fresh_R (b0 := w.heap.size) h0_ HBo.size); clear h0_; obtain ⟨Ax2a, cx2a, ex2a⟩ := Kd.R_slice Hx2a.out; subst ex2a; have Hx2b := Aside0.mk (fresh_R (b0 := w.heap.size) h1_ HBo.size); clear h1_; obtain ⟨Ax2b, cx2b, ex2b⟩ := Kd.R_slice Hx2b.out; subst ex2b; clear hb0 HBo; obtain ⟨hczp0_0, hczp0_1, hfzp0_0, hfzp0_1⟩ := c2_ BKp0) | ((with_reducible refine gate_dst (N := 5) rfl ?_); refine bx_ 5 #[.slice none 0 0, .slice none 0 0] 25 ?_; intro gbx0 hg w6 hbox hb; clear hczp0_0 hfzp0_0 hczp0_1 hfzp0_1; have HBo := HB.out; have n_ := Aside0.mk (blk_below BKp0.out hb); clear BKp0; have BKp0 := n_; clear n_; have n_ := Aside0.mk (Kd.R_below Hx2a.out hb); clear Hx2a; have Hx2a := n_; clear n_; have n_ := Aside0.mk (Kd.R_below Hx2b.out hb); clear Hx2b; have Hx2b := n_; clear n_; have n_ := Aside0.mk (below_then HBo HBo.size hb); clear HB; have HB := n_; clear n_; have HSw6 := Aside0.mk hb.size; have BKx0 := Aside0.mk hbox; have GIx0 := Aside0.mk (show w5.heap.size ≤ gbx0 ∧ gbx0 < w6.heap.size from ⟨by omega, blk_lt hbox⟩); have GEx0 := Aside0.mk (show w.heap.size ≤ gbx0 from by have := HBo.size; omega); clear hb hbox hg HBo; obtain ⟨hczp0_0, hczp0_1, hfzp0_0, hfzp0_1⟩ := c2_ BKp0; obtain ⟨hczx0_0, hczx0_1, hfzx0_0, hfzx0_1⟩ := c2_ BKx0) | ((with_reducible refine gate_store (t := 25) (p := 5) rfl ?_); refine store_event (t := 25) (p := 5) (v := ?vo) (w1 := ((w6.setCell ⟨gbx0, 0, none⟩ (.slice Ax2a l0_0.length cx2a)).setCell ⟨gbx0, 1, none⟩ (.slice Ax2b l0_1.length cx2b))) ?hg ?ho ?hn ?hr ?_; (case ho => rfl); (case hg => rfl); (case hn => rfl); (case hr => first | (go_simp; done) | (go_simp; rfl)); intro wq hw; subst hw; obtain ⟨hbox, hkp, hB2⟩ := box_store BKx0.out (.slice Ax2a l0_0.length cx2a) (.slice Ax2b l0_1.length cx2b) HB.out GEx0.out; generalize hw : ((w6.setCell ⟨gbx0, 0, none⟩ (.slice Ax2a l0_0.length cx2a)).setCell ⟨gbx0, 1, none⟩ (.slice Ax2b l0_1.length cx2b)) = w7 at hbox hkp hB2 ⊢; clear hw; clear hczp0_0 hfzp0_0 hczp0_1 hfzp0_1 hczx0_0 hfzx0_0 hczx0_1 hfzx0_1; have n_ := Aside0.mk (blk_kept (g := gbp0) BKp0.out hkp (fun hs => by have hk := GIp0.out; have := hk.1; have := hk.2; have := GIx0.out; have := HSw1.out; have := HSw2.out; have := HSw3.out; have := HSw4.out; have := HSw5.out; have := HSw6.out; omega)); clear BKp0; have BKp0 := n_; clear n_; have n_ := Aside0.mk (Kd.R_kept Hx2a.out hkp (fun k_ hk hs => by have := hk.1; have := hk.2; have := GIx0.out; have := HSw1.out; have := HSw2.out; have := HSw3.out; have := HSw4.out; have := HSw5.out; have := HSw6.out; omega)); clear Hx2a; have Hx2a := n_; clear n_; have n_ := Aside0.mk (Kd.R_kept Hx2b.out hkp (fun k_ hk hs => by have := hk.1; have := hk.2; have := GIx0.out; have := HSw1.out; have := HSw2.out; have := HSw3.out; have := HSw4.out; have := HSw5.out; have := HSw6.out; omega)); clear Hx2b; have Hx2b := n_; clear n_; have n_ := Aside0.mk (hB2); clear HB; have HB := n_; clear n_; have HSw7 := Aside0.mk hkp.1; clear BKx0; have BKx0 := Aside0.mk (show w7.heap[gbx0]? = some (.cells #[.slice Ax2a l0_0.length cx2a, .slice Ax2b l0_1.length cx2b] 25 (0, 0)) from hbox); clear hbox hkp hB2; obtain ⟨hczp0_0, hczp0_1, hfzp0_0, hfzp0_1⟩ := c2_ BKp0; obtain ⟨hczx0_0, hczx0_1, hfzx0_0, hfzx0_1⟩ := c2_ BKx0))
  go_upto_region 10 with (first | ((with_reducible refine gate_callee (f := 38) rfl ?_); refine goesL_ _ rfl rfl Try.func38 (by kernel_rfl) rfl #[.agg #[.slice Ax2a l0_0.length cx2a, .slice Ax2b l0_1.length cx2b]] rfl (by (try simp only [List.map_toArray, List.map_cons, List.map_nil]); first | done | rfl) ?_; have HBo := HB.out; refine (impl_IsFullGroup.calls k Ax2a cx2a l0_0 Ax2b cx2b l0_1 r0 _ (Kd.R_reads' Hx2a.out).2.2 (Kd.R_reads' Hx2a.out).2.1 (Kd.R_reads' Hx2b.out).2.2 (Kd.R_reads' Hx2b.out).2.1 FG.out).mono ?_; rintro e w8 ⟨rfl, hb0⟩; refine ⟨_, rfl, ?_⟩; clear hczp0_0 hfzp0_0 hczp0_1 hfzp0_1 hczx0_0 hfzx0_0 hczx0_1 hfzx0_1; have n_ := Aside0.mk (blk_below BKp0.out hb0); clear BKp0; have BKp0 := n_; clear n_; have n_ := Aside0.mk (Kd.R_below Hx2a.out hb0); clear Hx2a; have Hx2a := n_; clear n_; have n_ := Aside0.mk (Kd.R_below Hx2b.out hb0); clear Hx2b; have Hx2b := n_; clear n_; have n_ := Aside0.mk (blk_below BKx0.out hb0); clear BKx0; have BKx0 := n_; clear n_; have n_ := Aside0.mk (below_then HBo HBo.size hb0); clear HB; have HB := n_; clear n_; have HSw8 := Aside0.mk hb0.size; clear hb0 HBo; obtain ⟨hczp0_0, hczp0_1, hfzp0_0, hfzp0_1⟩ := c2_ BKp0; obtain ⟨hczx0_0, hczx0_1, hfzx0_0, hfzx0_1⟩ := c2_ BKx0))
  clear hczp0_0 hfzp0_0 hczp0_1 hfzp0_1 hczx0_0 hfzx0_0 hczx0_1 hfzx0_1
  have n_ := Aside0.mk (blk_drew BKp0.out)
  clear BKp0
  have BKp0 := n_
  clear n_
  have n_ := Aside0.mk (Kd.R_drew Hx2a.out)
  clear Hx2a
  have Hx2a := n_
  clear n_
  have n_ := Aside0.mk (Kd.R_drew Hx2b.out)
  clear Hx2b
  have Hx2b := n_
  clear n_
  have n_ := Aside0.mk (blk_drew BKx0.out)
  clear BKx0
  have BKx0 := n_
  clear n_
  have n_ := Aside0.mk (below_drew1 HB.out)
  clear HB
  have HB := n_
  clear n_
  have HSw10 := Aside0.mk (show w8.heap.size ≤ w8.drew.heap.size from Nat.le_refl _)
  refine start_ (n := 5) (S := fun w' => w'.cell? ⟨gbp0, 0, none⟩ = some (.slice A0_0 l0_0.length c0_0) ∧ w'.cell? ⟨gbp0, 1, none⟩ = some (.slice A0_1 l0_1.length c0_1) ∧ w'.cell? ⟨gbx0, 0, none⟩ = some (.slice Ax2a l0_0.length cx2a) ∧ w'.cell? ⟨gbx0, 1, none⟩ = some (.slice Ax2b l0_1.length cx2b)) (ds := []) (bl_ 5 0) (by kernel_rfl) rfl (by kernel_rfl) ⟨cz0_ BKp0, cz1_ BKp0, cz0_ BKx0, cz1_ BKx0⟩ (fun hHeld => ?_)
  generalize hwd : w8.drew = w10 at BKp0 Hx2a Hx2b BKx0 HB HSw10 hHeld ⊢
  clear hwd
  refine take_ (i := 0) (N := some 22) (v := ?_) (a' := ?_) (bl_ 5 1) rfl rfl (by kernel_rfl) (fun _ _ _ h => h) (Or.inl ⟨by rfl, ?_⟩) hHeld ?_ ?_
  rotate_left
  · rintro w' ⟨s0, s1, s2, s3⟩
    go_simp
    with_reducible rfl
  rotate_left
  · simp only [Act.put, List.setIfInBounds_toArray, List.set_cons_zero, List.set_cons_succ, i64_w, i32_w]
    rfl
  refine take_ (i := 1) (N := some 23) (v := ?_) (a' := ?_) (bl_ 5 3) rfl rfl (by kernel_rfl) (fun _ _ _ h => h) (Or.inl ⟨by rfl, ?_⟩) hHeld ?_ ?_
  rotate_left
  · rintro w' ⟨s0, s1, s2, s3⟩
    go_simp
    with_reducible rfl
  rotate_left
  · simp only [Act.put, List.setIfInBounds_toArray, List.set_cons_zero, List.set_cons_succ, i64_w, i32_w]
    rfl
  refine one_ (i := 2) (N := some 24) (bl_ 5 7) rfl rfl (by kernel_rfl) (by decide) (fun K hK => ?_)
  replace hK := Aside0.mk hK
  refine gO_ Try.func33 #[.agg #[.slice A0_0 l0_0.length c0_0, .slice A0_1 l0_1.length c0_1]] (by rfl) rfl rfl (by (try simp only [List.map_toArray, List.map_cons, List.map_nil]); first | done | rfl) ?_
  have HBo := HB.out
  refine (laws_toSurface.calls k A0_0 c0_0 l0_0 A0_1 c0_1 l0_1 l0_0 l0_1 _ (Kd.C_below HR0_0.out HB.out) HC0_0.out (Kd.C_below HR0_1.out HB.out) HC0_1.out FS0.out).mono ?_
  rintro e w11 ⟨v0_, v1_, rfl, h0_, h1_, hb0⟩
  refine ⟨_, rfl, ?_⟩
  clear hHeld
  have n_ := Aside0.mk (blk_below BKp0.out hb0)
  clear BKp0
  have BKp0 := n_
  clear n_
  have n_ := Aside0.mk (Kd.R_below Hx2a.out hb0)
  clear Hx2a
  have Hx2a := n_
  clear n_
  have n_ := Aside0.mk (Kd.R_below Hx2b.out hb0)
  clear Hx2b
  have Hx2b := n_
  clear n_
  have n_ := Aside0.mk (blk_below BKx0.out hb0)
  clear BKx0
  have BKx0 := n_
  clear n_
  have n_ := Aside0.mk (below_then HBo HBo.size hb0)
  clear HB
  have HB := n_
  clear n_
  have HSw11 := Aside0.mk hb0.size
  have NE3 := Aside0.mk h0_.1
  have Hx3a := Aside0.mk (fresh_R (b0 := w.heap.size) h0_ HBo.size)
  clear h0_
  obtain ⟨Ax3a, cx3a, ex3a⟩ := Kd.R_slice Hx3a.out
  subst ex3a
  have Hx3b := Aside0.mk (fresh_R (b0 := w.heap.size) h1_ HBo.size)
  clear h1_
  obtain ⟨Ax3b, cx3b, ex3b⟩ := Kd.R_slice Hx3b.out
  subst ex3b
  clear hb0 HBo
  refine hK.out _ _ ⟨cz0_ BKp0, cz1_ BKp0, cz0_ BKx0, cz1_ BKx0⟩ (fun hHeld => ?_)
  clear hK K
  refine no_ (some 24) ?_
  refine one_ (i := 3) (N := some 25) (bl_ 5 15) rfl rfl (by kernel_rfl) (by decide) (fun K hK => ?_)
  replace hK := Aside0.mk hK
  refine gO_ Try.func34 #[.agg #[.slice Ax2a l0_0.length cx2a, .slice Ax2b l0_1.length cx2b], .agg #[.slice Ax3a l0_0.length cx3a, .slice Ax3b l0_1.length cx3b]] (by rfl) rfl rfl (by (try simp only [List.map_toArray, List.map_cons, List.map_nil]); first | done | rfl) ?_
  have HBo := HB.out
  refine (laws_eqSurface.calls k Ax2a cx2a l0_0 Ax2b cx2b l0_1 Ax3a cx3a l0_0 Ax3b cx3b l0_1 true _ (Kd.R_reads' Hx2a.out).2.2 (Kd.R_reads' Hx2a.out).2.1 (Kd.R_reads' Hx2b.out).2.2 (Kd.R_reads' Hx2b.out).2.1 (Kd.R_reads' Hx3a.out).2.2 (Kd.R_reads' Hx3a.out).2.1 (Kd.R_reads' Hx3b.out).2.2 (Kd.R_reads' Hx3b.out).2.1 FE0.out).mono ?_
  rintro e w12 ⟨rfl, hb0⟩
  refine ⟨_, rfl, ?_⟩
  clear hHeld
  have n_ := Aside0.mk (blk_below BKp0.out hb0)
  clear BKp0
  have BKp0 := n_
  clear n_
  have n_ := Aside0.mk (Kd.R_below Hx2a.out hb0)
  clear Hx2a
  have Hx2a := n_
  clear n_
  have n_ := Aside0.mk (Kd.R_below Hx2b.out hb0)
  clear Hx2b
  have Hx2b := n_
  clear n_
  have n_ := Aside0.mk (blk_below BKx0.out hb0)
  clear BKx0
  have BKx0 := n_
  clear n_
  have n_ := Aside0.mk (Kd.R_below Hx3a.out hb0)
  clear Hx3a
  have Hx3a := n_
  clear n_
  have n_ := Aside0.mk (Kd.R_below Hx3b.out hb0)
  clear Hx3b
  have Hx3b := n_
  clear n_
  have n_ := Aside0.mk (below_then HBo HBo.size hb0)
  clear HB
  have HB := n_
  clear n_
  have HSw12 := Aside0.mk hb0.size
  clear hb0 HBo
  refine hK.out _ _ ⟨cz0_ BKp0, cz1_ BKp0, cz0_ BKx0, cz1_ BKx0⟩ (fun hHeld => ?_)
  clear hK K
  refine no_ (some 25) ?_
  refine pure_ (i := 4) (N := some 26) (v := ?_) (a' := ?_) (bl_ 5 31) rfl rfl (by kernel_rfl) (fun _ _ _ h => h) (Or.inl ⟨by rfl, ?_⟩) ?_ ?_
  rotate_left
  · intro w'
    go_simp
    with_reducible rfl
  rotate_left
  · simp only [Act.put, List.setIfInBounds_toArray, List.set_cons_zero, List.set_cons_succ, i64_w, i32_w]
    rfl
  refine done_ (by kernel_rfl) ?_
  clear hHeld
  obtain ⟨hczp0_0, hczp0_1, hfzp0_0, hfzp0_1⟩ := c2_ BKp0
  obtain ⟨hczx0_0, hczx0_1, hfzx0_0, hfzx0_1⟩ := c2_ BKx0
  clear Hx3a Hx3b
  go_wp2
  go_ret
  exact ⟨rfl, HB.out⟩
end Go.Proofs.Ytcggfjpnfodbaaa.A
end
section
/- Plain mathematics: permutations as lists of numbers. No conditions. -/
namespace Go.Proofs.Ytcggfjpnfodbaaa.M
set_option linter.unusedVariables false
set_option linter.unusedSimpArgs false
def I (l : List Nat) : List Int := l.map Int.ofNat
def g (p : List Nat) (i : Nat) : Nat := p.getD i 0
def tab (n : Nat) (f : Nat → Nat) : List Nat := (List.range n).map f
theorem I_len (l : List Nat) : (I l).length = l.length := by simp [I]
theorem I_inj {a b : List Nat} (h : I a = I b) : a = b := by
  unfold I at h
  exact (List.map_inj_right (fun x y hxy => Int.ofNat.inj hxy)).mp h
theorem tab_len (n : Nat) (f : Nat → Nat) : (tab n f).length = n := by simp [tab]
theorem g_tab {n : Nat} {f : Nat → Nat} {i : Nat} (h : i < n) : g (tab n f) i = f i := by simp [g, tab, List.getD_eq_getElem?_getD, h]
theorem g_get {p : List Nat} {i : Nat} (h : i < p.length) : g p i = p[i] := by simp [g, List.getD_eq_getElem?_getD, h]
theorem g_mem {p : List Nat} {i : Nat} (h : i < p.length) : g p i ∈ p := by rw [g_get h]; exact List.getElem_mem h
theorem mem_g {p : List Nat} {x : Nat} (h : x ∈ p) : ∃ i, i < p.length ∧ g p i = x := by
  obtain ⟨i, hi, rfl⟩ := List.mem_iff_getElem.mp h
  exact ⟨i, hi, g_get hi⟩
theorem ext_g {a b : List Nat} (hl : a.length = b.length) (h : ∀ i, i < a.length → g a i = g b i) : a = b := by
  apply List.ext_getElem hl
  intro i h1 h2
  rw [← g_get h1, ← g_get h2]
  exact h i h1
theorem eq_tab {l : List Nat} {n : Nat} {f : Nat → Nat} (hl : l.length = n) (h : ∀ i, i < n → g l i = f i) : l = tab n f :=
  ext_g (by rw [tab_len, hl]) (fun i hi => by rw [hl] at hi; rw [g_tab hi, h i hi])
theorem g_set {p : List Nat} {i x j : Nat} (h : i < p.length) : g (p.set i x) j = if i = j then x else g p j := by
  unfold g
  rw [List.getD_eq_getElem?_getD, List.getD_eq_getElem?_getD, List.getElem?_set]
  by_cases e : i = j
  · subst e
    simp [h]
  · simp [e]
theorem I_set (p : List Nat) (i x : Nat) : (I p).set i (x : Int) = I (p.set i x) := by simp [I, List.map_set]
theorem I_snoc (p : List Nat) (x : Nat) : I p ++ [(x : Int)] = I (p ++ [x]) := by simp [I]
theorem I_rep (n x : Nat) : I (List.replicate n x) = List.replicate n (x : Int) := by simp [I]
structure IsP (p : List Nat) : Prop where
  lt : ∀ x ∈ p, x < p.length
  nd : p.Nodup
instance (p : List Nat) : Decidable (IsP p) := decidable_of_iff ((∀ x ∈ p, x < p.length) ∧ p.Nodup) ⟨fun h => ⟨h.1, h.2⟩, fun h => ⟨h.lt, h.nd⟩⟩
theorem nodup_le (n : Nat) : ∀ l : List Nat, l.Nodup → (∀ x ∈ l, x < n) → l.length ≤ n := by
  induction n with
  | zero =>
    intro l _ h
    cases l with
    | nil => simp
    | cons a l => exact absurd (h a (by simp)) (by omega)
  | succ n ih =>
    intro l hn h
    have h1 := ih (l.erase n) (hn.erase n) (fun x hx => by
      have h2 := (List.Nodup.mem_erase_iff hn).mp hx
      have h3 := h x h2.2
      have h4 := h2.1
      omega)
    have h5 := @List.length_erase _ _ _ n l
    split at h5 <;> omega
theorem mem_all {p : List Nat} (hp : IsP p) {x : Nat} (h : x < p.length) : x ∈ p := by
  apply Classical.byContradiction
  intro hx
  have := nodup_le p.length (x :: p) (List.nodup_cons.mpr ⟨hx, hp.nd⟩) (fun y hy => by
    rcases List.mem_cons.mp hy with rfl | hy
    · exact h
    · exact hp.lt y hy)
  simp at this
  omega
theorem g_lt {p : List Nat} (hp : IsP p) {i : Nat} (h : i < p.length) : g p i < p.length := hp.lt _ (g_mem h)
theorem g_inj {p : List Nat} (hp : IsP p) {i j : Nat} (hi : i < p.length) (hj : j < p.length) (h : g p i = g p j) : i = j := by
  rw [g_get hi, g_get hj] at h
  have hw := List.pairwise_iff_getElem.mp hp.nd
  rcases Nat.lt_trichotomy i j with hij | hij | hij
  · exact absurd h (hw i j hi hj hij)
  · exact hij
  · exact absurd h.symm (hw j i hj hi hij)
def ix (p : List Nat) (x : Nat) : Nat := p.idxOf x
theorem ix_lt {p : List Nat} (hp : IsP p) {x : Nat} (h : x < p.length) : ix p x < p.length := List.idxOf_lt_length_of_mem (mem_all hp h)
theorem g_ix {p : List Nat} (hp : IsP p) {x : Nat} (h : x < p.length) : g p (ix p x) = x := by
  rw [g_get (ix_lt hp h)]
  exact List.getElem_idxOf (ix_lt hp h)
theorem ix_g {p : List Nat} (hp : IsP p) {i : Nat} (h : i < p.length) : ix p (g p i) = i :=
  g_inj hp (ix_lt hp (g_lt hp h)) h (g_ix hp (g_lt hp h))
theorem ix_eq {p : List Nat} (hp : IsP p) {i x : Nat} (h : i < p.length) (e : g p i = x) : ix p x = i := by rw [← e]; exact ix_g hp h
theorem isP_mk {p : List Nat} (h1 : ∀ i, i < p.length → g p i < p.length) (h2 : ∀ i j, i < p.length → j < p.length → g p i = g p j → i = j) : IsP p := by
  refine ⟨fun x hx => ?_, ?_⟩
  · obtain ⟨i, hi, rfl⟩ := mem_g hx
    exact h1 i hi
  · refine List.pairwise_iff_getElem.mpr ?_
    intro i j hi hj hij e'
    rw [← g_get hi, ← g_get hj] at e'
    have := h2 i j hi hj e'
    omega
theorem isP_tab {n : Nat} {f : Nat → Nat} (h1 : ∀ i, i < n → f i < n) (h2 : ∀ i j, i < n → j < n → f i = f j → i = j) : IsP (tab n f) := by
  refine isP_mk (fun i hi => ?_) (fun i j hi hj e => ?_)
  · rw [tab_len] at hi ⊢; rw [g_tab hi]; exact h1 i hi
  · rw [tab_len] at hi hj; rw [g_tab hi, g_tab hj] at e; exact h2 i j hi hj e
def inv (p : List Nat) : List Nat := tab p.length (ix p)
theorem inv_len (p : List Nat) : (inv p).length = p.length := tab_len _ _
theorem g_inv {p : List Nat} {i : Nat} (h : i < p.length) : g (inv p) i = ix p i := g_tab h
theorem isP_inv {p : List Nat} (hp : IsP p) : IsP (inv p) := isP_tab (fun i hi => ix_lt hp hi) (fun i j hi hj e => by rw [← g_ix hp hi, ← g_ix hp hj, e])
def thn (p q : List Nat) : List Nat := tab p.length (fun i => g q (g p i))
theorem thn_len (p q : List Nat) : (thn p q).length = p.length := tab_len _ _
theorem g_thn {p q : List Nat} {i : Nat} (h : i < p.length) : g (thn p q) i = g q (g p i) := g_tab h
theorem isP_thn {p q : List Nat} (hp : IsP p) (hq : IsP q) (hl : p.length = q.length) : IsP (thn p q) :=
  isP_tab (fun i hi => by have h1 := g_lt hp hi; have h2 := g_lt hq (i := g p i) (by omega); omega)
    (fun i j hi hj e => g_inj hp hi hj (g_inj hq (by have := g_lt hp hi; omega) (by have := g_lt hp hj; omega) e))
def ren (p names : List Nat) : List Nat := tab p.length (fun j => g names (g p (ix names j)))
theorem ren_len (p names : List Nat) : (ren p names).length = p.length := tab_len _ _
theorem g_ren {p names : List Nat} {j : Nat} (h : j < p.length) : g (ren p names) j = g names (g p (ix names j)) := g_tab h
theorem isP_ren {p names : List Nat} (hp : IsP p) (hn : IsP names) (hl : p.length = names.length) : IsP (ren p names) := by
  refine isP_tab (fun i hi => ?_) (fun i j hi hj e => ?_)
  · have h1 := ix_lt hn (x := i) (by omega)
    have h2 := g_lt hp (i := ix names i) (by omega)
    have h3 := g_lt hn (i := g p (ix names i)) (by omega)
    omega
  · have h1 := ix_lt hn (x := i) (by omega)
    have h2 := ix_lt hn (x := j) (by omega)
    have h3 := g_lt hp (i := ix names i) (by omega)
    have h4 := g_lt hp (i := ix names j) (by omega)
    have h5 := g_inj hn (by omega) (by omega) e
    have h6 := g_inj hp (by omega) (by omega) h5
    have h7 := g_ix hn (x := i) (by omega)
    have h8 := g_ix hn (x := j) (by omega)
    rw [← h7, ← h8, h6]
end Go.Proofs.Ytcggfjpnfodbaaa.M
end
section
/- Plain mathematics: permutations of whole numbers, and what is reached by two of them. No conditions. -/
namespace Go.Proofs.Ytcggfjpnfodbaaa.M
set_option linter.unusedVariables false
set_option linter.unusedSimpArgs false
open Go.RowKit Go.Proofs.YtcggfjpnfodbaaaW.PrintWords Go.Proofs.YtcggfjpnfodbaaaW.PrintLast Go.Proofs.YtcggfjpnfodbaaaW.PrintMore
theorem w64 {x : Int} (h0 : -9223372036854775808 ≤ x) (h1 : x ≤ 9223372036854775807) : wrap64 x = x := by unfold wrap64; omega
theorem w64s (i : Nat) (h : i ≤ 9000000000000000000) : wrap64 ((i : Int) + 1) = ((i + 1 : Nat) : Int) := by rw [w64 (by omega) (by omega)]; omega
theorem ev_succ {α : Type} {f : Nat → Option α} {r : α} (h : Ev (fun k => f (k + 1)) r) : Ev f r := Ev.step (fun _ => rfl) h
theorem rdI (p : List Nat) (i : Nat) : rd (I p) (i : Int) = ((g p i : Nat) : Int) := by
  unfold rd g I
  simp only [Int.toNat_natCast, List.getD_eq_getElem?_getD, List.getElem?_map]
  cases p[i]? <;> rfl
theorem rd_get (l : List Int) (i : Nat) (h : i < l.length) : rd l (i : Int) = l[i] := by
  unfold rd
  simp [List.getD_eq_getElem?_getD, h]
theorem mem_I {p : List Nat} {x : Nat} : (x : Int) ∈ I p ↔ x ∈ p := by
  unfold I
  constructor
  · intro h
    obtain ⟨y, hy, e⟩ := List.mem_map.mp h
    have : y = x := Int.ofNat.inj e
    exact this ▸ hy
  · intro h
    exact List.mem_map.mpr ⟨x, h, rfl⟩
def PI (l : List Int) : Prop := l.length ≤ 24 ∧ (∀ x ∈ l, 0 ≤ x ∧ x < (l.length : Int)) ∧ l.Nodup
instance : DecidablePred PI := fun l => by unfold PI; infer_instance
def permB (l : List Int) : Bool := decide (PI l)
def N (l : List Int) : List Nat := l.map Int.toNat
theorem N_I (p : List Nat) : N (I p) = p := by
  unfold N I
  rw [List.map_map]
  exact List.map_id'' (fun x => rfl) p
theorem N_len (l : List Int) : (N l).length = l.length := by simp [N]
theorem I_N {l : List Int} (h : ∀ x ∈ l, 0 ≤ x) : I (N l) = l := by
  unfold N I
  rw [List.map_map]
  conv => rhs; rw [← List.map_id l]
  apply List.map_congr_left
  intro x hx
  have := h x hx
  simp only [Function.comp, id]
  show ((x.toNat : Nat) : Int) = x
  omega
theorem PI_nat {l : List Int} (h : PI l) : ∃ p, l = I p ∧ IsP p ∧ p.length ≤ 24 := by
  obtain ⟨h1, h2, h3⟩ := h
  refine ⟨N l, (I_N (fun x hx => (h2 x hx).1)).symm, ?_, by rw [N_len]; exact h1⟩
  have e := I_N (fun x hx => (h2 x hx).1)
  refine ⟨fun x hx => ?_, ?_⟩
  · have := (h2 (x : Int) (by rw [← e]; exact mem_I.mpr hx)).2
    rw [N_len]
    omega
  · rw [← e] at h3
    unfold I at h3
    exact (List.pairwise_map.mp h3).imp (fun {a b} hab hh => hab (by rw [hh]))
theorem PI_I {p : List Nat} : PI (I p) ↔ IsP p ∧ p.length ≤ 24 := by
  constructor
  · intro h
    obtain ⟨q, e, h1, h2⟩ := PI_nat h
    have := I_inj e
    subst this
    exact ⟨h1, h2⟩
  · intro ⟨h1, h2⟩
    refine ⟨by rw [I_len]; exact h2, fun x hx => ?_, ?_⟩
    · unfold I at hx
      obtain ⟨y, hy, rfl⟩ := List.mem_map.mp hx
      have := h1.lt y hy
      rw [I_len]
      exact ⟨Int.natCast_nonneg y, Int.ofNat_lt.mpr this⟩
    · unfold I
      exact List.pairwise_map.mpr (h1.nd.imp (fun {a b} hab hh => hab (Int.ofNat.inj hh)))
theorem permB_I {p : List Nat} : permB (I p) = true ↔ IsP p ∧ p.length ≤ 24 := by
  unfold permB
  rw [decide_eq_true_iff]
  exact PI_I
def okFrom (l : List Int) (i : Nat) : Prop := ∀ j : Nat, i ≤ j → j < l.length → 0 ≤ rd l (j : Int) ∧ rd l (j : Int) < (l.length : Int) ∧ rd l (j : Int) ∉ l.take j
theorem okFrom_end (l : List Int) (i : Nat) (h : l.length ≤ i) : okFrom l i := fun j h1 h2 => by omega
theorem okFrom_step {l : List Int} {i : Nat} (h : 0 ≤ rd l (i : Int) ∧ rd l (i : Int) < (l.length : Int) ∧ rd l (i : Int) ∉ l.take i) : okFrom l i ↔ okFrom l (i + 1) := by
  constructor
  · intro k j h1 h2
    exact k j (by omega) h2
  · intro k j h1 h2
    by_cases e : j = i
    · subst e
      exact h
    · exact k j (by omega) h2
theorem okFrom_not {l : List Int} {i : Nat} (hi : i < l.length) (h : ¬ (0 ≤ rd l (i : Int) ∧ rd l (i : Int) < (l.length : Int) ∧ rd l (i : Int) ∉ l.take i)) : ¬ okFrom l i := fun k => h (k i (Nat.le_refl _) hi)
theorem okFrom_PI {l : List Int} (h : l.length ≤ 24) : okFrom l 0 ↔ PI l := by
  constructor
  · intro k
    refine ⟨h, fun x hx => ?_, ?_⟩
    · obtain ⟨i, hi, rfl⟩ := List.mem_iff_getElem.mp hx
      have := k i (Nat.zero_le _) hi
      rw [rd_get l i hi] at this
      exact ⟨this.1, this.2.1⟩
    · refine List.pairwise_iff_getElem.mpr ?_
      intro i j hi hj hij e
      have := (k j (Nat.zero_le _) hj).2.2
      rw [rd_get l j hj, ← e] at this
      exact this (List.mem_take_iff_getElem.mpr ⟨i, by omega, rfl⟩)
  · intro ⟨_, h2, h3⟩ j _ hj
    rw [rd_get l j hj]
    refine ⟨(h2 _ (List.getElem_mem hj)).1, (h2 _ (List.getElem_mem hj)).2, fun hm => ?_⟩
    obtain ⟨i, hi, e⟩ := List.mem_take_iff_getElem.mp hm
    exact List.pairwise_iff_getElem.mp h3 i j (by omega) hj (by omega) e
theorem permB_of {l : List Int} {b : Bool} (h : l.length ≤ 24) (hb : b = true ↔ okFrom l 0) : b = permB l := by
  rw [Bool.eq_iff_iff, hb, okFrom_PI h]
  unfold permB
  rw [decide_eq_true_iff]
theorem take_succ (l : List Int) (i : Nat) (h : i < l.length) : l.take (i + 1) = l.take i ++ [rd l (i : Int)] := by
  rw [rd_get l i h, List.take_append_getElem h]
def st1 (out : List Nat) (x : Nat) : List Nat := if x ∈ out then out else out ++ [x]
def bfs (p q : List Nat) : Nat → Nat → List Nat → List Nat
  | 0, _, out => out
  | f + 1, a, out => if a < out.length then bfs p q f (a + 1) (st1 (st1 out (g p (g out a))) (g q (g out a))) else out
def reach (p q : List Nat) (s : Nat) : List Nat := bfs p q (p.length + 1) 0 [s]
structure RInv (n : Nat) (out : List Nat) : Prop where
  nd : out.Nodup
  lt : ∀ x ∈ out, x < n
theorem RInv.le {n : Nat} {out : List Nat} (h : RInv n out) : out.length ≤ n := nodup_le n out h.nd h.lt
theorem RInv.st {n : Nat} {out : List Nat} {x : Nat} (h : RInv n out) (hx : x < n) : RInv n (st1 out x) := by
  unfold st1
  split
  · exact h
  · rename_i hn
    refine ⟨List.nodup_append.mpr ⟨h.nd, by simp, fun a ha b hb e => ?_⟩, fun y hy => ?_⟩
    · have : b = x := by simpa using hb
      subst this
      exact hn (e ▸ ha)
    · rcases List.mem_append.mp hy with hy | hy
      · exact h.lt y hy
      · have : y = x := by simpa using hy
        omega
theorem st1_len (out : List Nat) (x : Nat) : out.length ≤ (st1 out x).length := by
  unfold st1
  split <;> simp
theorem RInv.g {n : Nat} {out : List Nat} {a : Nat} (h : RInv n out) (ha : a < out.length) : M.g out a < n := h.lt _ (g_mem ha)
structure Sf (r u : List Nat) : Prop where
  pr : IsP r
  pu : IsP u
  le : r.length ≤ 24
  eq : u.length = r.length
  pos : 0 < r.length
  all : (reach r u 0).length = r.length
def surfB (r u : List Int) : Bool := permB r && permB u && decide (r.length = u.length) && decide (0 < r.length) && ((reach (N r) (N u) 0).length == r.length)
theorem surf_nat {r u : List Int} (h : surfB r u = true) : ∃ r' u', r = I r' ∧ u = I u' ∧ Sf r' u' := by
  unfold surfB at h
  simp only [Bool.and_eq_true, decide_eq_true_eq, beq_iff_eq] at h
  obtain ⟨⟨⟨⟨h1, h2⟩, h3⟩, h4⟩, h5⟩ := h
  obtain ⟨r', rfl, a1, a2⟩ := PI_nat (of_decide_eq_true h1)
  obtain ⟨u', rfl, b1, b2⟩ := PI_nat (of_decide_eq_true h2)
  rw [N_I, N_I, I_len] at h5
  rw [I_len, I_len] at h3
  rw [I_len] at h4
  exact ⟨r', u', rfl, rfl, a1, b1, a2, h3.symm, h4, h5⟩
theorem surfB_I {r u : List Nat} : surfB (I r) (I u) = true ↔ Sf r u := by
  constructor
  · intro h
    obtain ⟨r', u', e1, e2, hs⟩ := surf_nat h
    have := I_inj e1
    have := I_inj e2
    subst_vars
    exact hs
  · intro h
    unfold surfB
    simp only [Bool.and_eq_true, decide_eq_true_eq, beq_iff_eq]
    rw [N_I, N_I, I_len, I_len]
    exact ⟨⟨⟨⟨permB_I.mpr ⟨h.pr, h.le⟩, permB_I.mpr ⟨h.pu, by have := h.le; have := h.eq; omega⟩⟩, h.eq.symm⟩, h.pos⟩, h.all⟩
end Go.Proofs.Ytcggfjpnfodbaaa.M
end
section
/- Plain mathematics: going round a permutation. No conditions. -/
namespace Go.Proofs.Ytcggfjpnfodbaaa.M
set_option linter.unusedVariables false
set_option linter.unusedSimpArgs false
def itr (p : List Nat) : Nat → Nat → Nat
  | 0, s => s
  | m + 1, s => g p (itr p m s)
theorem itr_lt {p : List Nat} (hp : IsP p) (m : Nat) {s : Nat} (hs : s < p.length) : itr p m s < p.length := by
  induction m with
  | zero => exact hs
  | succ m ih => exact g_lt hp ih
theorem itr_add (p : List Nat) (a b s : Nat) : itr p (a + b) s = itr p a (itr p b s) := by
  induction a with
  | zero => simp [itr]
  | succ a ih =>
    have e : a + 1 + b = (a + b) + 1 := by omega
    rw [e, itr, itr, ih]
theorem itr_back {p : List Nat} (hp : IsP p) {s : Nat} (hs : s < p.length) (i d : Nat) (h : itr p (i + d) s = itr p i s) : itr p d s = s := by
  induction i with
  | zero =>
    have e : 0 + d = d := by omega
    rw [e] at h
    exact h
  | succ i ih =>
    have e : i + 1 + d = (i + d) + 1 := by omega
    rw [e] at h
    exact ih (g_inj hp (itr_lt hp _ hs) (itr_lt hp _ hs) h)
theorem period {p : List Nat} (hp : IsP p) {s : Nat} (hs : s < p.length) : ∃ m, 1 ≤ m ∧ m ≤ p.length ∧ itr p m s = s := by
  apply Classical.byContradiction
  intro hn
  have hd : ((List.range (p.length + 1)).map (fun m => itr p m s)).Nodup := by
    refine List.pairwise_map.mpr ?_
    refine List.pairwise_iff_getElem.mpr ?_
    intro i j hi hj hij
    rw [List.length_range] at hi hj
    rw [List.getElem_range, List.getElem_range]
    intro e
    have : itr p (j - i) s = s := itr_back hp hs i (j - i) (by
      have e2 : i + (j - i) = j := by omega
      rw [e2]
      exact e.symm)
    exact hn ⟨j - i, by omega, by omega, this⟩
  have := nodup_le p.length _ hd (fun x hx => by
    obtain ⟨m, _, rfl⟩ := List.mem_map.mp hx
    exact itr_lt hp m hs)
  simp at this
  omega
def per (p : List Nat) (s : Nat) : Nat := (((List.range p.length).find? (fun m => itr p (m + 1) s == s)).getD 0) + 1
def orbTo (p : List Nat) (s m : Nat) : List Nat := (List.range m).map (fun k => itr p k s)
def orb (p : List Nat) (s : Nat) : List Nat := orbTo p s (per p s)
end Go.Proofs.Ytcggfjpnfodbaaa.M
end
section
/- Plain mathematics: surfaces, and what the four letters make of them. No conditions. -/
namespace Go.Proofs.Ytcggfjpnfodbaaa.M
set_option linter.unusedVariables false
set_option linter.unusedSimpArgs false
theorem st1_mem {out : List Nat} {x y : Nat} : y ∈ st1 out x ↔ y ∈ out ∨ y = x := by
  unfold st1
  split
  · rename_i h
    constructor
    · exact Or.inl
    · rintro (h' | rfl)
      · exact h'
      · exact h
  · simp
theorem st1_g {out : List Nat} {x i : Nat} (h : i < out.length) : g (st1 out x) i = g out i := by
  unfold st1
  split
  · rfl
  · unfold g
    rw [List.getD_eq_getElem?_getD, List.getD_eq_getElem?_getD, List.getElem?_append_left h]
theorem st1_le (out : List Nat) (x : Nat) : out.length ≤ (st1 out x).length := by
  unfold st1
  split
  · exact Nat.le_refl _
  · simp
theorem bfs_ind {r u : List Nat} {n : Nat} (S : Nat → Prop) (h1 : ∀ x, x < n → S x → S (g r x) ∧ g r x < n) (h2 : ∀ x, x < n → S x → S (g u x) ∧ g u x < n) : ∀ (F a : Nat) (out : List Nat), (∀ x ∈ out, S x ∧ x < n) → ∀ x ∈ bfs r u F a out, S x ∧ x < n := by
  intro F
  induction F with
  | zero => intro a out h; exact h
  | succ F ih =>
    intro a out h
    unfold bfs
    split
    · rename_i ha
      obtain ⟨s, l⟩ := h _ (g_mem ha)
      refine ih _ _ (fun x hx => ?_)
      rcases st1_mem.mp hx with hx | rfl
      · rcases st1_mem.mp hx with hx | rfl
        · exact h x hx
        · exact h1 _ l s
      · exact h2 _ l s
    · exact h
theorem bfs_sub {r u : List Nat} : ∀ (F a : Nat) (out : List Nat), ∀ x ∈ out, x ∈ bfs r u F a out := by
  intro F
  induction F with
  | zero => intro a out x h; exact h
  | succ F ih =>
    intro a out x h
    unfold bfs
    split
    · exact ih _ _ x (st1_mem.mpr (.inl (st1_mem.mpr (.inl h))))
    · exact h
theorem bfs_rinv {r u : List Nat} {n : Nat} (h1 : ∀ x, x < n → g r x < n) (h2 : ∀ x, x < n → g u x < n) : ∀ (F a : Nat) (out : List Nat), RInv n out → RInv n (bfs r u F a out) := by
  intro F
  induction F with
  | zero => intro a out h; exact h
  | succ F ih =>
    intro a out h
    unfold bfs
    split
    · rename_i ha
      have hx := h.g ha
      exact ih _ _ ((h.st (h1 _ hx)).st (h2 _ hx))
    · exact h
theorem bfs_shut {r u : List Nat} {n : Nat} (h1 : ∀ x, x < n → g r x < n) (h2 : ∀ x, x < n → g u x < n) : ∀ (F a : Nat) (out : List Nat), RInv n out → a ≤ out.length → n < F + a → (∀ i, i < a → g r (g out i) ∈ out ∧ g u (g out i) ∈ out) → ∀ x ∈ bfs r u F a out, g r x ∈ bfs r u F a out ∧ g u x ∈ bfs r u F a out := by
  intro F
  induction F with
  | zero =>
    intro a out h ha hF
    have := h.le
    omega
  | succ F ih =>
    intro a out h ha hF hc
    unfold bfs
    split
    · rename_i ha'
      have hx := h.g ha'
      have r1 := h.st (h1 _ hx)
      have l1 := st1_le out (g r (g out a))
      have l2 := st1_le (st1 out (g r (g out a))) (g u (g out a))
      refine ih _ _ (r1.st (h2 _ hx)) (by omega) (by omega) (fun i hi => ?_)
      have e : g (st1 (st1 out (g r (g out a))) (g u (g out a))) i = g out i := by
        rw [st1_g (by omega), st1_g (by omega)]
      rw [e]
      by_cases hia : i < a
      · exact ⟨st1_mem.mpr (.inl (st1_mem.mpr (.inl (hc i hia).1))), st1_mem.mpr (.inl (st1_mem.mpr (.inl (hc i hia).2)))⟩
      · obtain rfl : i = a := by omega
        exact ⟨st1_mem.mpr (.inl (st1_mem.mpr (.inr rfl))), st1_mem.mpr (.inr rfl)⟩
    · intro x hx
      obtain ⟨i, hi, rfl⟩ := mem_g hx
      exact hc i (by omega)
theorem nodup_sub_len5 : ∀ (a b : List Nat), a.Nodup → (∀ x ∈ a, x ∈ b) → a.length ≤ b.length := by
  intro a
  induction a with
  | nil => intro b _ _; simp
  | cons x a ih =>
    intro b hn h
    obtain ⟨h1, h2⟩ := List.nodup_cons.mp hn
    have hx : x ∈ b := h x (by simp)
    have := ih (b.erase x) h2 (fun y hy => (List.mem_erase_of_ne (fun e => h1 (by rw [← e]; exact hy))).mpr (h y (by simp [hy])))
    rw [List.length_erase_of_mem hx] at this
    have hp := List.length_pos_of_mem hx
    simp
    omega
def Tr (r u : List Nat) : Prop := ∀ S : Nat → Prop, S 0 → (∀ x, x < r.length → S x → S (g r x)) → (∀ x, x < r.length → S x → S (g u x)) → ∀ x, x < r.length → S x
theorem sf_of_tr {r u : List Nat} (pr : IsP r) (pu : IsP u) (le : r.length ≤ 24) (eq : u.length = r.length) (pos : 0 < r.length) (h : Tr r u) : Sf r u := by
  have b1 : ∀ x, x < r.length → g r x < r.length := fun x hx => g_lt pr hx
  have b2 : ∀ x, x < r.length → g u x < r.length := fun x hx => by have := g_lt pu (i := x) (by omega); omega
  have hri : RInv r.length (reach r u 0) := bfs_rinv b1 b2 _ _ _ ⟨by simp, by simpa using pos⟩
  have hsh := bfs_shut b1 b2 (r.length + 1) 0 [0] ⟨by simp, by simpa using pos⟩ (by simp) (by omega) (fun i hi => by omega)
  have hall : ∀ x, x < r.length → x ∈ reach r u 0 := h (fun x => x ∈ reach r u 0) (bfs_sub _ _ _ 0 (by simp)) (fun x _ hx => (hsh x hx).1) (fun x _ hx => (hsh x hx).2)
  refine ⟨pr, pu, le, eq, pos, ?_⟩
  have l1 := hri.le
  have l2 := nodup_sub_len5 (List.range r.length) (reach r u 0) List.nodup_range (fun x hx => hall x (List.mem_range.mp hx))
  rw [List.length_range] at l2
  omega
theorem Sf.tr {r u : List Nat} (hs : Sf r u) : Tr r u := by
  intro S s0 h1 h2 x hx
  have b1 : ∀ x, x < r.length → g r x < r.length := fun x hx => g_lt hs.pr hx
  have b2 : ∀ x, x < r.length → g u x < r.length := fun x hx => by have := g_lt hs.pu (i := x) (by rw [hs.eq]; exact hx); rw [hs.eq] at this; exact this
  have hri : RInv r.length (reach r u 0) := bfs_rinv b1 b2 _ _ _ ⟨by simp, by simpa using hs.pos⟩
  have hp : IsP (reach r u 0) := ⟨fun x hx => by rw [hs.all]; exact hri.lt x hx, hri.nd⟩
  have hm := mem_all hp (x := x) (by rw [hs.all]; exact hx)
  have h0 : ∀ y ∈ [0], S y ∧ y < r.length := by
    intro y hy
    obtain rfl : y = 0 := by simpa using hy
    exact ⟨s0, hs.pos⟩
  exact (bfs_ind S (fun x hx h => ⟨h1 x hx h, b1 x hx⟩) (fun x hx h => ⟨h2 x hx h, b2 x hx⟩) _ _ [0] h0 x hm).1
theorem closed_back {p : List Nat} (hp : IsP p) {S : Nat → Prop} (hS : ∀ x, x < p.length → S x → S (g p x)) {x : Nat} (hx : x < p.length) (h : S (g p x)) : S x := by
  obtain ⟨m, h1, _, h3⟩ := period hp hx
  have H : ∀ k, S (itr p k (g p x)) := by
    intro k
    induction k with
    | zero => exact h
    | succ k ih => exact hS _ (itr_lt hp k (g_lt hp hx)) ih
  have e : itr p (m - 1) (g p x) = itr p m x := by
    have := itr_add p (m - 1) 1 x
    rw [show m - 1 + 1 = m by omega] at this
    exact this.symm
  have := H (m - 1)
  rw [e, h3] at this
  exact this
theorem reach_full {r u : List Nat} (hs : Sf r u) {s : Nat} (hb : s < r.length) : RInv r.length (reach r u s) ∧ ∀ x, x < r.length → x ∈ reach r u s := by
  have b1 : ∀ x, x < r.length → g r x < r.length := fun x hx => g_lt hs.pr hx
  have b2 : ∀ x, x < r.length → g u x < r.length := fun x hx => by have := g_lt hs.pu (i := x) (by rw [hs.eq]; exact hx); rw [hs.eq] at this; exact this
  have h0 : RInv r.length [s] := ⟨by simp, by simpa using hb⟩
  have hsh := bfs_shut b1 b2 (r.length + 1) 0 [s] h0 (by simp) (by omega) (fun i hi => by omega)
  have hmem : s ∈ reach r u s := bfs_sub _ _ _ s (by simp)
  refine ⟨bfs_rinv b1 b2 _ _ _ h0, ?_⟩
  have z : (0 : Nat) ∈ reach r u s := by
    apply Classical.byContradiction
    intro hz
    refine hs.tr (fun x => x ∉ reach r u s) hz (fun x hx hn hm => ?_) (fun x hx hn hm => ?_) s hb hmem
    · exact hn (closed_back hs.pr (S := fun x => x ∈ reach r u s) (fun y _ hy => (hsh y hy).1) hx hm)
    · exact hn (closed_back hs.pu (S := fun x => x ∈ reach r u s) (fun y _ hy => (hsh y hy).2) (by rw [hs.eq]; exact hx) hm)
  exact hs.tr (fun x => x ∈ reach r u s) z (fun x _ hx => (hsh x hx).1) (fun x _ hx => (hsh x hx).2)
theorem sf_T {r u : List Nat} (hs : Sf r u) : Sf r (thn (inv r) u) := by
  have h1 : (inv r).length = u.length := by rw [inv_len, hs.eq]
  refine sf_of_tr hs.pr (isP_thn (isP_inv hs.pr) hs.pu h1) hs.le (by rw [thn_len, inv_len]) hs.pos (fun S s0 k1 k2 => hs.tr S s0 k1 (fun x hx hsx => ?_))
  have := k2 (g r x) (g_lt hs.pr hx) (k1 x hx hsx)
  rw [g_thn (by rw [inv_len]; exact g_lt hs.pr hx), g_inv (g_lt hs.pr hx), ix_g hs.pr hx] at this
  exact this
theorem sf_t {r u : List Nat} (hs : Sf r u) : Sf r (thn r u) := by
  have h1 : r.length = u.length := hs.eq.symm
  refine sf_of_tr hs.pr (isP_thn hs.pr hs.pu h1) hs.le (by rw [thn_len]) hs.pos (fun S s0 k1 k2 => hs.tr S s0 k1 (fun y hy hsy => ?_))
  have hx : ix r y < r.length := ix_lt hs.pr hy
  have e : g r (ix r y) = y := g_ix hs.pr hy
  have hsx : S (ix r y) := closed_back hs.pr (S := S) k1 hx (by rw [e]; exact hsy)
  have := k2 _ hx hsx
  rw [g_thn hx, e] at this
  exact this
theorem sf_S {r u : List Nat} (hs : Sf r u) : Sf (inv u) r := by
  have hl : (inv u).length = r.length := by rw [inv_len, hs.eq]
  refine sf_of_tr (isP_inv hs.pu) hs.pr (by rw [hl]; exact hs.le) hl.symm (by rw [hl]; exact hs.pos) (fun S s0 k1 k2 => ?_)
  rw [hl] at k1 k2 ⊢
  refine hs.tr S s0 k2 (fun x hx hsx => ?_)
  have hx' : g u x < u.length := g_lt hs.pu (by rw [hs.eq]; exact hx)
  refine closed_back (isP_inv hs.pu) (S := S) (fun y hy => k1 y (by rw [← hl]; exact hy)) (x := g u x) (by rw [inv_len]; exact hx') ?_
  rw [g_inv hx', ix_g hs.pu (by rw [hs.eq]; exact hx)]
  exact hsx
theorem sf_s {r u : List Nat} (hs : Sf r u) : Sf u (inv r) := by
  refine sf_of_tr hs.pu (isP_inv hs.pr) (by rw [hs.eq]; exact hs.le) (by rw [inv_len, hs.eq]) (by rw [hs.eq]; exact hs.pos) (fun S s0 k1 k2 => ?_)
  rw [hs.eq] at k1 k2 ⊢
  refine hs.tr S s0 (fun x hx hsx => ?_) k1
  have hx' : g r x < r.length := g_lt hs.pr hx
  refine closed_back (isP_inv hs.pr) (S := S) (fun y hy => k2 y (by rw [inv_len] at hy; exact hy)) (x := g r x) (by rw [inv_len]; exact hx') ?_
  rw [g_inv hx', ix_g hs.pr hx]
  exact hsx
end Go.Proofs.Ytcggfjpnfodbaaa.M
end
section
/- Plain mathematics: surfaces that are alike by renaming. No conditions. -/
namespace Go.Proofs.Ytcggfjpnfodbaaa.M
set_option linter.unusedVariables false
set_option linter.unusedSimpArgs false
structure Is (s t : List Nat × List Nat) (f : Nat → Nat) : Prop where
  len : t.1.length = s.1.length
  lt : ∀ x, x < s.1.length → f x < s.1.length
  inj : ∀ x y, x < s.1.length → y < s.1.length → f x = f y → x = y
  r : ∀ x, x < s.1.length → f (g s.1 x) = g t.1 (f x)
  u : ∀ x, x < s.1.length → f (g s.2 x) = g t.2 (f x)
theorem Sf.gr {r u : List Nat} (hs : Sf r u) {x : Nat} (h : x < r.length) : g r x < r.length := g_lt hs.pr h
theorem Sf.gu {r u : List Nat} (hs : Sf r u) {x : Nat} (h : x < r.length) : g u x < r.length := by
  have := g_lt hs.pu (i := x) (by rw [hs.eq]; exact h)
  rw [hs.eq] at this
  exact this
theorem Sf.ir {r u : List Nat} (hs : Sf r u) {x : Nat} (h : x < r.length) : ix r x < r.length := ix_lt hs.pr h
theorem Sf.iu {r u : List Nat} (hs : Sf r u) {x : Nat} (h : x < r.length) : ix u x < r.length := by
  have := ix_lt hs.pu (x := x) (by rw [hs.eq]; exact h)
  rw [hs.eq] at this
  exact this
theorem Is.refl (s : List Nat × List Nat) : Is s s (fun x => x) := ⟨rfl, fun _ h => h, fun _ _ _ _ h => h, fun _ _ => rfl, fun _ _ => rfl⟩
theorem Is.trans {s t v : List Nat × List Nat} {f h : Nat → Nat} (a : Is s t f) (b : Is t v h) : Is s v (fun x => h (f x)) where
  len := b.len.trans a.len
  lt x hx := by have := b.lt (f x) (by rw [a.len]; exact a.lt x hx); rw [a.len] at this; exact this
  inj x y hx hy e := a.inj x y hx hy (b.inj _ _ (by rw [a.len]; exact a.lt x hx) (by rw [a.len]; exact a.lt y hy) e)
  r x hx := by show h (f (g s.1 x)) = _; rw [a.r x hx, b.r _ (by rw [a.len]; exact a.lt x hx)]
  u x hx := by show h (f (g s.2 x)) = _; rw [a.u x hx, b.u _ (by rw [a.len]; exact a.lt x hx)]
def bk (n : Nat) (f : Nat → Nat) (y : Nat) : Nat := ix (tab n f) y
theorem bk_lt {n : Nat} {f : Nat → Nat} (h1 : ∀ x, x < n → f x < n) (h2 : ∀ x y, x < n → y < n → f x = f y → x = y) {y : Nat} (hy : y < n) : bk n f y < n := by
  have := ix_lt (isP_tab h1 h2) (x := y) (by rw [tab_len]; exact hy)
  rw [tab_len] at this
  exact this
theorem f_bk {n : Nat} {f : Nat → Nat} (h1 : ∀ x, x < n → f x < n) (h2 : ∀ x y, x < n → y < n → f x = f y → x = y) {y : Nat} (hy : y < n) : f (bk n f y) = y := by
  have h := g_ix (isP_tab h1 h2) (x := y) (by rw [tab_len]; exact hy)
  have hb : ix (tab n f) y < n := bk_lt h1 h2 hy
  rw [g_tab hb] at h
  exact h
theorem bk_f {n : Nat} {f : Nat → Nat} (h1 : ∀ x, x < n → f x < n) (h2 : ∀ x y, x < n → y < n → f x = f y → x = y) {x : Nat} (hx : x < n) : bk n f (f x) = x :=
  h2 _ _ (bk_lt h1 h2 (h1 x hx)) hx (f_bk h1 h2 (h1 x hx))
theorem Is.symm {s t : List Nat × List Nat} {f : Nat → Nat} (hs : Sf s.1 s.2) (a : Is s t f) : Is t s (bk s.1.length f) where
  len := a.len.symm
  lt y hy := by rw [a.len] at hy ⊢; exact bk_lt a.lt a.inj hy
  inj y z hy hz e := by
    rw [a.len] at hy hz
    rw [← f_bk a.lt a.inj hy, ← f_bk a.lt a.inj hz, e]
  r y hy := by
    rw [a.len] at hy
    have hb := bk_lt a.lt a.inj hy
    have e : g t.1 y = f (g s.1 (bk s.1.length f y)) := by rw [a.r _ hb, f_bk a.lt a.inj hy]
    rw [e, bk_f a.lt a.inj (hs.gr hb)]
  u y hy := by
    rw [a.len] at hy
    have hb := bk_lt a.lt a.inj hy
    have e : g t.2 y = f (g s.2 (bk s.1.length f y)) := by rw [a.u _ hb, f_bk a.lt a.inj hy]
    rw [e, bk_f a.lt a.inj (hs.gu hb)]
theorem Sf.of_is {s t : List Nat × List Nat} {f : Nat → Nat} (hs : Sf s.1 s.2) (a : Is s t f) (p1 : IsP t.1) (p2 : IsP t.2) (hl : t.2.length = t.1.length) : Sf t.1 t.2 := by
  refine sf_of_tr p1 p2 (by rw [a.len]; exact hs.le) hl (by rw [a.len]; exact hs.pos) (fun S s0 k1 k2 y hy => ?_)
  rw [a.len] at k1 k2 hy
  have i0 := bk_lt a.lt a.inj hs.pos
  have h0 : S (f (bk s.1.length f 0)) := by rw [f_bk a.lt a.inj hs.pos]; exact s0
  have hm := (reach_full hs i0).2 (bk s.1.length f y) (bk_lt a.lt a.inj hy)
  have := (bfs_ind (fun x => S (f x)) (n := s.1.length) (fun x hx h => ⟨by rw [a.r x hx]; exact k1 _ (a.lt x hx) h, hs.gr hx⟩) (fun x hx h => ⟨by rw [a.u x hx]; exact k2 _ (a.lt x hx) h, hs.gu hx⟩) _ _ [bk s.1.length f 0] (by intro x hx; obtain rfl : x = bk s.1.length f 0 := (by simpa using hx); exact ⟨h0, i0⟩) _ hm).1
  rw [f_bk a.lt a.inj hy] at this
  exact this
theorem Sf.all_of {r u : List Nat} (hs : Sf r u) {S : Nat → Prop} {i : Nat} (hi : i < r.length) (h0 : S i) (h1 : ∀ x, x < r.length → S x → S (g r x)) (h2 : ∀ x, x < r.length → S x → S (g u x)) : ∀ y, y < r.length → S y := by
  intro y hy
  have hm := (reach_full hs hi).2 y hy
  exact (bfs_ind S (n := r.length) (fun x hx h => ⟨h1 x hx h, hs.gr hx⟩) (fun x hx h => ⟨h2 x hx h, hs.gu hx⟩) _ _ [i] (by intro x hx; obtain rfl : x = i := (by simpa using hx); exact ⟨h0, hi⟩) _ hm).1
theorem Is.ir {s t : List Nat × List Nat} {f : Nat → Nat} (hs : Sf s.1 s.2) (ht : Sf t.1 t.2) (a : Is s t f) {x : Nat} (hx : x < s.1.length) : f (ix s.1 x) = ix t.1 (f x) := by
  have h1 := hs.ir hx
  refine (ix_eq ht.pr (by rw [a.len]; exact a.lt _ h1) ?_).symm
  rw [← a.r _ h1, g_ix hs.pr hx]
theorem Is.iu {s t : List Nat × List Nat} {f : Nat → Nat} (hs : Sf s.1 s.2) (ht : Sf t.1 t.2) (a : Is s t f) {x : Nat} (hx : x < s.1.length) : f (ix s.2 x) = ix t.2 (f x) := by
  have h1 := hs.iu hx
  refine (ix_eq ht.pu (by rw [ht.eq, a.len]; exact a.lt _ h1) ?_).symm
  rw [← a.u _ h1, g_ix hs.pu (by rw [hs.eq]; exact hx)]
end Go.Proofs.Ytcggfjpnfodbaaa.M
end
section
/- The tests of permutations, program and reference, come to one plain test. No conditions. -/
namespace Go.Proofs.Ytcggfjpnfodbaaa.M
set_option linter.unusedVariables false
set_option linter.unusedSimpArgs false
open Go.RowKit Go.Proofs.YtcggfjpnfodbaaaW.PrintWords Go.Proofs.YtcggfjpnfodbaaaW.PrintLast Go.Proofs.YtcggfjpnfodbaaaW.PrintMore Go.Proofs.Ytcggfjpnfodbaaa.A
theorem has_ev (l : List Int) (a : Int) (hl : l.length ≤ 1000000000) : Ev (fun k => spec_l02Has.f k l a) (decide (a ∈ l)) := by
  have H : ∀ d i : Nat, i + d = l.length → Ev (fun k => spec_l02Has.l0 k a l (l.length : Int) (i : Int)) (decide (a ∈ l.drop i)) := by
    intro d
    induction d with
    | zero =>
      intro i h
      refine ev_succ ?_
      have h1 : ¬ ((i : Int) < (l.length : Int)) := by omega
      have e : decide (a ∈ l.drop i) = false := by
        rw [List.drop_of_length_le (by omega)]
        simp
      simp only [spec_l02Has.l0, h1, if_false]
      rw [e]
      exact Ev.now _
    | succ d ih =>
      intro i h
      refine ev_succ ?_
      have hi : i < l.length := by omega
      have h1 : (i : Int) < (l.length : Int) := by omega
      have h2 : (0 : Int) ≤ (i : Int) := by omega
      have h3 := w64s i (by omega)
      have e := List.drop_eq_getElem_cons hi
      rw [← rd_get l i hi] at e
      by_cases hr : rd l (i : Int) = a
      · have e2 : decide (a ∈ l.drop i) = true := by rw [e, hr]; simp
        simp only [spec_l02Has.l0, h1, h2, hr, if_true]
        rw [e2]
        exact Ev.now _
      · have e2 : decide (a ∈ l.drop i) = decide (a ∈ l.drop (i + 1)) := by
          rw [e]
          have : ¬ a = rd l (i : Int) := fun h => hr h.symm
          simp [this]
        simp only [spec_l02Has.l0, h1, h2, h3, hr, if_true, if_false]
        rw [e2]
        exact ih (i + 1) (by omega)
  have := H l.length 0 (by omega)
  simpa [spec_l02Has.f] using this
theorem in_f (x : Int) (n : Nat) (hn : n ≤ 24) : spec_l01In.f x 0 (wrap64 ((n : Int) - 1)) = some (decide (0 ≤ x ∧ x < (n : Int))) := by
  unfold spec_l01In.f
  rw [w64 (by omega) (by omega)]
  by_cases h : x ≥ 0
  · rw [if_pos h]
    congr 1
    rw [Bool.eq_iff_iff, decide_eq_true_iff, decide_eq_true_iff]
    omega
  · rw [if_neg h]
    congr 1
    symm
    rw [decide_eq_false_iff_not]
    omega
theorem spec_permOk (l : List Int) : Ev (fun k => spec_PermOk.f k l) (permB l) := by
  unfold spec_PermOk.f
  by_cases h24 : (l.length : Int) > 24
  · simp only [h24, if_true]
    have : permB l = false := by
      unfold permB
      rw [decide_eq_false_iff_not]
      intro h
      have := h.1
      omega
    rw [this]
    exact Ev.now _
  · simp only [h24, if_false]
    have H : ∀ d i : Nat, i + d = l.length → ∃ b, Ev (fun k => spec_PermOk.l0 k l l (l.length : Int) (i : Int)) b ∧ (b = true ↔ okFrom l i) := by
      intro d
      induction d with
      | zero =>
        intro i h
        refine ⟨true, ev_succ ?_, by simp [okFrom_end l i (by omega)]⟩
        have h1 : ¬ ((i : Int) < (l.length : Int)) := by omega
        simp only [spec_PermOk.l0, h1, if_false]
        exact Ev.now _
      | succ d ih =>
        intro i h
        have hi : i < l.length := by omega
        have h1 : (i : Int) < (l.length : Int) := by omega
        have h1' : (i : Int) ≤ (l.length : Int) := by omega
        have h2 : (0 : Int) ≤ (i : Int) := by omega
        have h3 := w64s i (by omega)
        have hin := in_f (rd l (i : Int)) l.length (by omega)
        by_cases c1 : 0 ≤ rd l (i : Int) ∧ rd l (i : Int) < (l.length : Int)
        · have hh := has_ev (l.take i) (rd l (i : Int)) (by rw [List.length_take]; omega)
          by_cases c2 : rd l (i : Int) ∈ l.take i
          · refine ⟨false, ev_succ ?_, by simpa using okFrom_not hi (fun h => h.2.2 c2)⟩
            simp only [spec_PermOk.l0, h1, h1', h2, hin, c1, if_true, Option.bind_some, decide_true, Int.toNat_natCast, and_self]
            refine Ev.bind hh ?_
            simp only [c2, decide_true, if_true]
            exact Ev.now _
          · obtain ⟨b, i1, i2⟩ := ih (i + 1) (by omega)
            refine ⟨b, ev_succ ?_, by rw [i2]; exact (okFrom_step ⟨c1.1, c1.2, c2⟩).symm⟩
            simp only [spec_PermOk.l0, h1, h1', h2, h3, hin, c1, if_true, Option.bind_some, decide_true, Int.toNat_natCast, and_self]
            refine Ev.bind hh ?_
            simp only [c2, decide_false, Bool.false_eq_true, if_false]
            exact i1
        · refine ⟨false, ev_succ ?_, by simpa using okFrom_not hi (fun h => c1 ⟨h.1, h.2.1⟩)⟩
          simp only [spec_PermOk.l0, h1, h2, hin, c1, if_true, if_false, Option.bind_some, decide_false, Bool.false_eq_true]
          exact Ev.now _
    obtain ⟨b, i1, i2⟩ := H l.length 0 (by omega)
    rw [← permB_of (by omega) i2]
    exact i1
theorem rdOf_nat (s : List Bool) (x : Nat) : rdOf false s (x : Int) = s.getD x false := rfl
theorem getD_set (s : List Bool) (x y : Nat) (h : x < s.length) : (s.set x true).getD y false = if x = y then true else s.getD y false := by
  rw [List.getD_eq_getElem?_getD, List.getD_eq_getElem?_getD, List.getElem?_set]
  by_cases e : x = y
  · subst e
    simp [h]
  · simp [e]
theorem impl_permOk (l : List Int) : Ev (fun k => impl_PermOk.f k l) (permB l) := by
  unfold impl_PermOk.f
  by_cases h24 : (l.length : Int) > 24
  · simp only [h24, if_true]
    have : permB l = false := by
      unfold permB
      rw [decide_eq_false_iff_not]
      intro h
      have := h.1
      omega
    rw [this]
    exact Ev.now _
  · simp only [h24, if_false]
    have H : ∀ (d i : Nat) (s : List Bool), i + d = l.length → s.length = 24 → (∀ x : Nat, x < 24 → (s.getD x false = true ↔ (x : Int) ∈ l.take i)) → ∃ b, Ev (fun k => impl_PermOk.l0 k l s (i : Int)) b ∧ (b = true ↔ okFrom l i) := by
      intro d
      induction d with
      | zero =>
        intro i s h hs hx
        refine ⟨true, ev_succ ?_, by simp [okFrom_end l i (by omega)]⟩
        have h1 : ¬ ((i : Int) < (l.length : Int)) := by omega
        simp only [impl_PermOk.l0, h1, if_false]
        exact Ev.now _
      | succ d ih =>
        intro i s h hs hx
        have hi : i < l.length := by omega
        have h1 : (i : Int) < (l.length : Int) := by omega
        have h2 : (0 : Int) ≤ (i : Int) := by omega
        have h3 := w64s i (by omega)
        by_cases c1 : rd l (i : Int) < 0
        · refine ⟨false, ev_succ ?_, by simpa using okFrom_not hi (fun h => by omega)⟩
          simp only [impl_PermOk.l0, h1, h2, c1, if_true]
          exact Ev.now _
        · by_cases c2 : rd l (i : Int) ≥ (l.length : Int)
          · refine ⟨false, ev_succ ?_, by simpa using okFrom_not hi (fun h => by omega)⟩
            simp only [impl_PermOk.l0, h1, h2, c1, c2, if_true, if_false]
            exact Ev.now _
          · obtain ⟨x, ex⟩ : ∃ x : Nat, rd l (i : Int) = (x : Int) := ⟨(rd l (i : Int)).toNat, by omega⟩
            have hx24 : x < 24 := by omega
            by_cases c3 : s.getD x false = true
            · have hm := (hx x hx24).mp c3
              refine ⟨false, ev_succ ?_, by simpa using okFrom_not hi (fun h => h.2.2 (by rw [ex]; exact hm))⟩
              rw [ex] at c1 c2
              simp only [impl_PermOk.l0, h1, h2, ex, c1, c2, rdOf_nat, c3, if_true, if_false]
              exact Ev.now _
            · have hm : (x : Int) ∉ l.take i := fun h => c3 ((hx x hx24).mpr h)
              obtain ⟨b, i1, i2⟩ := ih (i + 1) (s.set x true) (by omega) (by rw [List.length_set]; exact hs) (fun y hy => by
                rw [getD_set s x y (by omega), take_succ l i hi, ex]
                by_cases e : x = y
                · subst e
                  simp
                · rw [if_neg e, hx y hy]
                  have : ¬ (y : Int) = (x : Int) := by omega
                  simp [this])
              refine ⟨b, ev_succ ?_, by rw [i2]; exact (okFrom_step ⟨by omega, by omega, by rw [ex]; exact hm⟩).symm⟩
              rw [ex] at c1 c2
              simp only [impl_PermOk.l0, h1, h2, h3, ex, c1, c2, rdOf_nat, c3, if_true, if_false, Int.toNat_natCast]
              exact i1
    obtain ⟨b, i1, i2⟩ := H l.length 0 (List.replicate 24 false) (by omega) rfl (fun x hx => by
      have : (List.replicate 24 false).getD x false = false := by
        rw [List.getD_eq_getElem?_getD, List.getElem?_replicate]
        simp [hx]
      rw [this]
      simp)
    rw [← permB_of (by omega) i2]
    exact i1
end Go.Proofs.Ytcggfjpnfodbaaa.M
end
section
/- The tests of surfaces, program and reference, come to one plain test. No conditions. -/
namespace Go.Proofs.Ytcggfjpnfodbaaa.M
set_option linter.unusedVariables false
set_option linter.unusedSimpArgs false
open Go.RowKit Go.Proofs.YtcggfjpnfodbaaaW.PrintWords Go.Proofs.YtcggfjpnfodbaaaW.PrintLast Go.Proofs.YtcggfjpnfodbaaaW.PrintMore Go.Proofs.Ytcggfjpnfodbaaa.A
theorem I_pair (a b : Nat) : ([(a : Int), (b : Int)] : List Int) = I [a, b] := rfl
theorem I_len' (l : List Nat) : ((I l).length : Int) = (l.length : Int) := by rw [I_len]
theorem st1_I (out : List Nat) (x : Nat) : I (st1 out x) = if (x : Int) ∈ I out then I out else I out ++ [(x : Int)] := by
  unfold st1
  by_cases h : x ∈ out
  · rw [if_pos h, if_pos (mem_I.mpr h)]
  · rw [if_neg h, if_neg (fun k => h (mem_I.mp k)), I_snoc]
theorem reach_one (p q out pr : List Nat) (a : Nat) (j : Nat) (hj : j < pr.length) (hp : pr.length ≤ 2) (hl : out.length ≤ 1000) (r : List Int)
    (H : Ev (fun k => spec_l02Reach.l1 k (I p) (I q) (I (st1 out (g pr j))) (a : Int) (I pr) (pr.length : Int) ((j + 1 : Nat) : Int)) r) :
    Ev (fun k => spec_l02Reach.l1 k (I p) (I q) (I out) (a : Int) (I pr) (pr.length : Int) (j : Int)) r := by
  refine ev_succ ?_
  have h1 : (j : Int) < (pr.length : Int) := by omega
  have h2 : (0 : Int) ≤ (j : Int) := by omega
  have h3 := w64s j (by omega)
  have h4 : (I out).length < 17592186044416 := by rw [I_len]; omega
  have hh := has_ev (I out) ((g pr j : Nat) : Int) (by rw [I_len]; omega)
  simp only [spec_l02Reach.l1, h1, h2, h3, h4, rdI, I_len', if_true]
  refine Ev.bind hh ?_
  rw [st1_I] at H
  by_cases hm : ((g pr j : Nat) : Int) ∈ I out
  · rw [if_pos hm] at H
    simp only [hm, decide_true, if_true]
    exact H
  · rw [if_neg hm] at H
    simp only [hm, decide_false, Bool.false_eq_true, if_false]
    exact H
theorem reach_loop {p q : List Nat} (hp : IsP p) (hq : IsP q) (hl : q.length = p.length) (h24 : p.length ≤ 24) (f : Nat) : ∀ (a : Nat) (out : List Nat), RInv p.length out → a ≤ out.length → p.length < f + a →
    Ev (fun k => spec_l02Reach.l0 k (I p) (I q) (I out) (a : Int)) (I (bfs p q f a out)) := by
  induction f with
  | zero =>
    intro a out hr ha hf
    have := hr.le
    omega
  | succ f ih =>
    intro a out hr ha hf
    have hle := hr.le
    refine ev_succ ?_
    by_cases h : a < out.length
    · have h1 : (a : Int) < (out.length : Int) := by omega
      have h2 : (0 : Int) ≤ (a : Int) := by omega
      have hx := hr.g h
      have h3 : ((g out a : Nat) : Int) < (p.length : Int) := by omega
      have h4 : (0 : Int) ≤ ((g out a : Nat) : Int) := by omega
      have h5 : ((g out a : Nat) : Int) < (q.length : Int) := by omega
      have h6 := w64s a (by omega)
      simp only [spec_l02Reach.l0, h1, h2, h3, h4, h5, rdI, I_len', if_true, Option.bind_some, I_pair]
      have r1 := hr.st (g_lt hp hx)
      have r2 := r1.st (x := g q (g out a)) (by have := g_lt hq (i := g out a) (by omega); omega)
      have hb : bfs p q (f + 1) a out = bfs p q f (a + 1) (st1 (st1 out (g p (g out a))) (g q (g out a))) := by
        rw [bfs, if_pos h]
      rw [hb]
      have i1 := ih (a + 1) _ r2 (by have := st1_len out (g p (g out a)); have := st1_len (st1 out (g p (g out a))) (g q (g out a)); omega) (by omega)
      refine reach_one p q out [g p (g out a), g q (g out a)] a 0 (by simp) (by simp) (by omega) _ ?_
      refine reach_one p q _ [g p (g out a), g q (g out a)] a 1 (by simp) (by simp) (by have := r1.le; simp only [g, List.getD_cons_zero] at this ⊢; omega) _ ?_
      refine ev_succ ?_
      have h7 : ¬ (((1 + 1 : Nat) : Int) < (([g p (g out a), g q (g out a)] : List Nat).length : Int)) := by simp
      simp only [spec_l02Reach.l1, h7, h6, if_false]
      exact i1
    · have h1 : ¬ ((a : Int) < (out.length : Int)) := by omega
      have hb : bfs p q (f + 1) a out = out := by rw [bfs, if_neg h]
      rw [hb]
      simp only [spec_l02Reach.l0, h1, I_len', if_false]
      exact Ev.now _
theorem reach_ev {p q : List Nat} (hp : IsP p) (hq : IsP q) (hl : q.length = p.length) (h24 : p.length ≤ 24) (s : Nat) (hs : s < p.length) : Ev (fun k => spec_l02Reach.f k (I p) (I q) (s : Int)) (I (reach p q s)) := by
  unfold spec_l02Reach.f reach
  exact reach_loop hp hq hl h24 (p.length + 1) 0 [s] ⟨by simp, by simpa using hs⟩ (by simp) (by omega)
theorem len_ne_false {r u : List Int} (h : r.length ≠ u.length) : surfB r u = false := by
  unfold surfB
  simp [h]
theorem surfB_mk {r u : List Int} (h1 : permB r = true) (h2 : permB u = true) (h3 : r.length = u.length) (h4 : 0 < r.length) : surfB r u = ((reach (N r) (N u) 0).length == r.length) := by
  unfold surfB
  simp [h1, h2, h3, h4]
  intro _
  omega
theorem spec_trans (r u : List Int) : Ev (fun k => spec_IsTransitive.f k r u) (surfB r u) := by
  unfold spec_IsTransitive.f
  refine Ev.bind (spec_permOk r) ?_
  by_cases h1 : permB r = true
  · simp only [h1, if_true]
    refine Ev.bind (spec_permOk u) ?_
    by_cases h2 : permB u = true
    · simp only [h2, if_true]
      by_cases h3 : (r.length : Int) = (u.length : Int)
      · have h3' : r.length = u.length := by omega
        by_cases h4 : (r.length : Int) > 0
        · have h4' : 0 < r.length := by omega
          rw [surfB_mk h1 h2 h3' h4']
          obtain ⟨p, rfl, a1, a2⟩ := PI_nat (of_decide_eq_true h1)
          obtain ⟨q, rfl, b1, b2⟩ := PI_nat (of_decide_eq_true h2)
          rw [I_len, I_len] at h3'
          rw [I_len] at h4'
          have := reach_ev a1 b1 h3'.symm a2 0 h4'
          simp only [h3, h4, if_true]
          rw [h3] at h4
          simp only [h4, if_true]
          refine Ev.bind this ?_
          rw [N_I, N_I]
          have e : (((I (reach p q 0)).length : Int) == ((I q).length : Int)) = ((reach p q 0).length == (I p).length) := by
            rw [I_len, I_len, I_len, Bool.eq_iff_iff, beq_iff_eq, beq_iff_eq]
            omega
          rw [← h3] at e
          simp only [h3] at e
          rw [← e]
          exact Ev.now _
        · simp only [h3, if_true]
          rw [h3] at h4
          simp only [h4, if_false]
          have : surfB r u = false := by
            unfold surfB
            have : ¬ 0 < r.length := by omega
            simp [this]
          rw [this]
          exact Ev.now _
      · simp only [h3, if_false]
        rw [len_ne_false (by omega)]
        exact Ev.now _
    · have h2' := Bool.eq_false_iff.mpr h2
      simp only [h2', Bool.false_eq_true, if_false]
      have : surfB r u = false := by unfold surfB; simp [h2']
      rw [this]
      exact Ev.now _
  · have h1' := Bool.eq_false_iff.mpr h1
    simp only [h1', Bool.false_eq_true, if_false]
    have : surfB r u = false := by unfold surfB; simp [h1']
    rw [this]
    exact Ev.now _
theorem spec_surf (r u : List Int) : Ev (fun k => spec_SurfaceOk.f k r u) (surfB r u) := by
  unfold spec_SurfaceOk.f
  exact Ev.bind (spec_trans r u) (Ev.now _)
def Marks (n : Nat) (s : List Bool) (out : List Nat) : Prop := s.length = n ∧ ∀ x, x < n → (s.getD x false = true ↔ x ∈ out)
theorem Marks.add {n : Nat} {s : List Bool} {out : List Nat} {x : Nat} (h : Marks n s out) (hx : x < n) : Marks n (s.set x true) (out ++ [x]) := by
  refine ⟨by rw [List.length_set]; exact h.1, fun y hy => ?_⟩
  rw [getD_set s x y (by rw [h.1]; exact hx)]
  by_cases e : x = y
  · subst e
    simp
  · rw [if_neg e, h.2 y hy]
    have : ¬ y = x := fun k => e k.symm
    simp [this]
theorem trans_one (p q out pr : List Nat) (s : List Bool) (a : Nat) (j : Nat) (hj : j < pr.length) (hp : pr.length ≤ 2) (hl : out.length ≤ 1000) (hm : Marks p.length s out) (hx : g pr j < p.length) (r : Bool)
    (H : ∀ s', Marks p.length s' (st1 out (g pr j)) → Ev (fun k => impl_IsTransitive.l1 k (I p) (I q) s' (I (st1 out (g pr j))) (a : Int) (I pr) (pr.length : Int) ((j + 1 : Nat) : Int)) r) :
    Ev (fun k => impl_IsTransitive.l1 k (I p) (I q) s (I out) (a : Int) (I pr) (pr.length : Int) (j : Int)) r := by
  refine ev_succ ?_
  have h1 : (j : Int) < (pr.length : Int) := by omega
  have h2 : (0 : Int) ≤ (j : Int) := by omega
  have h3 := w64s j (by omega)
  have h4 : (I out).length < 17592186044416 := by rw [I_len]; omega
  have h5 : (0 : Int) ≤ ((g pr j : Nat) : Int) := by omega
  have h6 : ((g pr j : Nat) : Int) < (s.length : Int) := by rw [hm.1]; omega
  simp only [impl_IsTransitive.l1, h1, h2, h3, h4, h5, h6, rdI, I_len', rdOf_nat, if_true, Int.toNat_natCast]
  by_cases hin : g pr j ∈ out
  · have hs := (hm.2 _ hx).mpr hin
    have e : st1 out (g pr j) = out := by unfold st1; rw [if_pos hin]
    have := H s (by rw [e]; exact hm)
    rw [e] at this
    simp only [hs, if_true]
    exact this
  · have hs : s.getD (g pr j) false = false := Bool.eq_false_iff.mpr (fun h => hin ((hm.2 _ hx).mp h))
    have e : st1 out (g pr j) = out ++ [g pr j] := by unfold st1; rw [if_neg hin]
    have := H (s.set (g pr j) true) (by rw [e]; exact hm.add hx)
    rw [e, ← I_snoc] at this
    simp only [hs, Bool.false_eq_true, if_false]
    exact this
theorem trans_loop {p q : List Nat} (hp : IsP p) (hq : IsP q) (hl : q.length = p.length) (h24 : p.length ≤ 24) (f : Nat) : ∀ (a : Nat) (out : List Nat) (s : List Bool), RInv p.length out → Marks p.length s out → a ≤ out.length → p.length < f + a →
    Ev (fun k => impl_IsTransitive.l0 k (I p) (I q) s (I out) (a : Int)) ((bfs p q f a out).length == p.length) := by
  induction f with
  | zero =>
    intro a out s hr hm ha hf
    have := hr.le
    omega
  | succ f ih =>
    intro a out s hr hm ha hf
    have hle := hr.le
    refine ev_succ ?_
    by_cases h : a < out.length
    · have h1 : (a : Int) < (out.length : Int) := by omega
      have h2 : (0 : Int) ≤ (a : Int) := by omega
      have hx := hr.g h
      have h3 : ((g out a : Nat) : Int) < (p.length : Int) := by omega
      have h4 : (0 : Int) ≤ ((g out a : Nat) : Int) := by omega
      have h5 : ((g out a : Nat) : Int) < (q.length : Int) := by omega
      have h6 := w64s a (by omega)
      simp only [impl_IsTransitive.l0, h1, h2, h3, h4, h5, rdI, I_len', if_true, Option.bind_some, I_pair]
      have hg1 := g_lt hp hx
      have hg2 : g q (g out a) < p.length := by have := g_lt hq (i := g out a) (by omega); omega
      have r1 := hr.st hg1
      have r2 := r1.st hg2
      have hb : bfs p q (f + 1) a out = bfs p q f (a + 1) (st1 (st1 out (g p (g out a))) (g q (g out a))) := by
        rw [bfs, if_pos h]
      rw [hb]
      refine trans_one p q out [g p (g out a), g q (g out a)] s a 0 (by simp) (by simp) (by omega) hm hg1 _ (fun s1 hm1 => ?_)
      refine trans_one p q _ [g p (g out a), g q (g out a)] s1 a 1 (by simp) (by simp) (by have := r1.le; simp only [g, List.getD_cons_zero] at this ⊢; omega) hm1 hg2 _ (fun s2 hm2 => ?_)
      refine ev_succ ?_
      have h7 : ¬ (((1 + 1 : Nat) : Int) < (([g p (g out a), g q (g out a)] : List Nat).length : Int)) := by simp
      simp only [impl_IsTransitive.l1, h7, h6, if_false]
      exact ih (a + 1) _ s2 r2 hm2 (Nat.le_trans (by omega : a + 1 ≤ out.length) (Nat.le_trans (st1_len _ _) (st1_len _ _))) (by omega)
    · have h1 : ¬ ((a : Int) < (out.length : Int)) := by omega
      have hb : bfs p q (f + 1) a out = out := by rw [bfs, if_neg h]
      rw [hb]
      simp only [impl_IsTransitive.l0, h1, I_len', if_false]
      have e : ((out.length : Int) == (p.length : Int)) = (out.length == p.length) := by
        rw [Bool.eq_iff_iff, beq_iff_eq, beq_iff_eq]
        omega
      rw [e]
      exact Ev.now _
theorem j0_true (r u : List Int) : Ev (fun k => impl_IsTransitive.j0 k r u true) false := by
  refine ev_succ ?_
  simp only [impl_IsTransitive.j0, if_true]
  exact Ev.now _
theorem impl_trans (r u : List Int) : Ev (fun k => impl_IsTransitive.f k r u) (surfB r u) := by
  unfold impl_IsTransitive.f
  refine Ev.bind (impl_permOk r) ?_
  by_cases h1 : permB r = true
  · simp only [h1, if_true]
    refine Ev.bind (impl_permOk u) ?_
    by_cases h2 : permB u = true
    · simp only [h2, if_true]
      by_cases h3 : (r.length : Int) = (u.length : Int)
      · have h3' : r.length = u.length := by omega
        simp only [h3, if_true]
        by_cases h4 : 0 < r.length
        · rw [surfB_mk h1 h2 h3' h4]
          obtain ⟨p, rfl, a1, a2⟩ := PI_nat (of_decide_eq_true h1)
          obtain ⟨q, rfl, b1, b2⟩ := PI_nat (of_decide_eq_true h2)
          rw [I_len, I_len] at h3'
          rw [I_len] at h4
          refine ev_succ ?_
          have e0 : ((q.length : Int) == 0) = false := by rw [beq_eq_false_iff_ne]; omega
          have e1 : (0 : Int) ≤ (p.length : Int) := by omega
          have e2 : ((p.length : Int)).toNat ≤ 281474976710656 := by omega
          have e3 : (0 : Int) < ((List.replicate p.length false).length : Int) := by rw [List.length_replicate]; omega
          simp only [impl_IsTransitive.j0, e0, I_len', e1, e2, Bool.false_eq_true, if_true, if_false, Option.bind_some, Int.toNat_natCast, e3]
          simp only [Int.toNat_natCast] at e2
          simp only [e2, if_true]
          rw [N_I, N_I, I_len]
          refine trans_loop a1 b1 h3'.symm a2 (p.length + 1) 0 [0] _ ⟨by simp, by simpa using h4⟩ ?_ (by simp) (by omega)
          refine ⟨by simp, fun x hx => ?_⟩
          have : (0 : Int).toNat = 0 := rfl
          rw [this, getD_set _ 0 x (by simp; omega)]
          by_cases e : 0 = x
          · subst e
            simp
          · rw [if_neg e]
            have h0 : ¬ x = 0 := fun h => e h.symm
            have : (List.replicate p.length false).getD x false = false := by
              rw [List.getD_eq_getElem?_getD, List.getElem?_replicate]
              simp [hx]
            rw [this]
            simp [h0]
        · have e0 : ((u.length : Int) == 0) = true := by rw [beq_iff_eq]; omega
          have : surfB r u = false := by unfold surfB; simp [h4]
          rw [this]
          simp only [e0]
          exact j0_true r u
      · simp only [h3, if_false]
        rw [len_ne_false (by omega)]
        exact j0_true r u
    · have h2' := Bool.eq_false_iff.mpr h2
      simp only [h2', Bool.false_eq_true, if_false]
      have : surfB r u = false := by unfold surfB; simp [h2']
      rw [this]
      exact j0_true r u
  · have h1' := Bool.eq_false_iff.mpr h1
    simp only [h1', Bool.false_eq_true, if_false]
    have : surfB r u = false := by unfold surfB; simp [h1']
    rw [this]
    exact j0_true r u
theorem impl_surf (r u : List Int) : Ev (fun k => impl_SurfaceOk.f k r u) (surfB r u) := by
  unfold impl_SurfaceOk.f
  exact Ev.bind (impl_trans r u) (Ev.now _)
end Go.Proofs.Ytcggfjpnfodbaaa.M
end
section
/- What every law does with its arguments; inverses. No conditions. -/
namespace Go.Proofs.Ytcggfjpnfodbaaa.M
set_option linter.unusedVariables false
set_option linter.unusedSimpArgs false
open Go.RowKit Go.Proofs.YtcggfjpnfodbaaaW.PrintWords Go.Proofs.YtcggfjpnfodbaaaW.PrintLast Go.Proofs.YtcggfjpnfodbaaaW.PrintMore Go.Proofs.Ytcggfjpnfodbaaa.A
theorem rd_set {l : List Int} {i j : Nat} {x : Int} (h : i < l.length) : rd (l.set i x) (j : Int) = if i = j then x else rd l (j : Int) := by
  unfold rd
  simp only [Int.toNat_natCast]
  rw [List.getD_eq_getElem?_getD, List.getD_eq_getElem?_getD, List.getElem?_set]
  by_cases e : i = j
  · subst e
    simp [h]
  · simp [e]
theorem ext_rd {a b : List Int} (hl : a.length = b.length) (h : ∀ i : Nat, i < a.length → rd a (i : Int) = rd b (i : Int)) : a = b := by
  apply List.ext_getElem hl
  intro i h1 h2
  rw [← rd_get a i h1, ← rd_get b i h2]
  exact h i h1
theorem sz_small {r u : List Int} (h : r.length + u.length ≤ 1048576) : laws_szSurface.f r u 1048576 = some (1048576 - (r.length : Int) - (u.length : Int)) := by
  unfold laws_szSurface.f laws_szIntS.f
  have e1 : wrap64 (1048576 - (r.length : Int)) = 1048576 - (r.length : Int) := w64 (by omega) (by omega)
  have e2 : wrap64 (1048576 - (r.length : Int) - (u.length : Int)) = 1048576 - (r.length : Int) - (u.length : Int) := w64 (by omega) (by omega)
  have c1 : ¬ (1048576 - (r.length : Int) < 0) := by omega
  have c2 : ¬ (1048576 - (r.length : Int) - (u.length : Int) < 0) := by omega
  simp only [e1, c1, if_false, Option.bind_some, e2, c2]
theorem sz_big {r u : List Int} (hr : r.length ≤ 9223372036854775807) (hu : u.length ≤ 9223372036854775807) (h : ¬ r.length + u.length ≤ 1048576) : laws_szSurface.f r u 1048576 = some (-1) := by
  unfold laws_szSurface.f laws_szIntS.f
  have e1 : wrap64 (1048576 - (r.length : Int)) = 1048576 - (r.length : Int) := w64 (by omega) (by omega)
  by_cases c1 : 1048576 - (r.length : Int) < 0
  · have c3 : (-1 : Int) < 0 := by omega
    simp only [e1, c1, if_true, Option.bind_some, c3]
  · have e2 : wrap64 (1048576 - (r.length : Int) - (u.length : Int)) = 1048576 - (r.length : Int) - (u.length : Int) := w64 (by omega) (by omega)
    have c2 : 1048576 - (r.length : Int) - (u.length : Int) < 0 := by omega
    have c3 : (-1 : Int) < 0 := by omega
    simp only [e1, c1, if_false, Option.bind_some, e2, c2, if_true, c3]
theorem toInts_ev (l : List Int) (h : l.length ≤ 1048576) : Ev (fun k => laws_toIntS.f k l) l := by
  unfold laws_toIntS.f
  have h1 : (0 : Int) ≤ (l.length : Int) := by omega
  have h2 : ((l.length : Int)).toNat ≤ 35184372088832 := by omega
  simp only [h1, h2, if_true]
  have H : ∀ (d i : Nat) (c : List Int), i + d = l.length → c.length = l.length → (∀ j : Nat, j < i → rd c (j : Int) = rd l (j : Int)) → Ev (fun k => laws_toIntS.l0 k l c (i : Int)) l := by
    intro d
    induction d with
    | zero =>
      intro i c h hc hx
      refine ev_succ ?_
      have h1 : ¬ ((i : Int) < (l.length : Int)) := by omega
      have e : c = l := ext_rd hc (fun j hj => hx j (by omega))
      simp only [laws_toIntS.l0, h1, if_false]
      rw [e]
      exact Ev.now _
    | succ d ih =>
      intro i c h hc hx
      refine ev_succ ?_
      have h1 : (i : Int) < (l.length : Int) := by omega
      have h2 : (0 : Int) ≤ (i : Int) := by omega
      have h3 : (i : Int) < (c.length : Int) := by omega
      have h4 := w64s i (by omega)
      simp only [laws_toIntS.l0, h1, h2, h3, h4, if_true, Int.toNat_natCast]
      refine ih (i + 1) _ (by omega) (by rw [List.length_set]; exact hc) (fun j hj => ?_)
      rw [rd_set (by omega)]
      by_cases e : i = j
      · subst e
        simp
      · rw [if_neg e]
        exact hx j (by omega)
  exact H l.length 0 _ (by omega) (by rw [List.length_replicate]; omega) (fun j hj => by omega)
theorem toSurf_ev (r u : List Int) (hr : r.length ≤ 1048576) (hu : u.length ≤ 1048576) : Ev (fun k => laws_toSurface.f k r u) (r, u) := by
  unfold laws_toSurface.f
  exact Ev.bind (toInts_ev r hr) (Ev.bind (toInts_ev u hu) (Ev.now _))
theorem eqInts_ev (a b : List Int) (ha : a.length ≤ 9000000000000000000) : Ev (fun k => laws_eqIntS.f k a b) (decide (a = b)) := by
  unfold laws_eqIntS.f
  by_cases hl : (a.length : Int) = (b.length : Int)
  · simp only [hl, if_true]
    have hl' : a.length = b.length := by omega
    have H : ∀ d i : Nat, i + d = a.length → ∃ c, Ev (fun k => laws_eqIntS.l0 k a b (i : Int)) c ∧ (c = true ↔ ∀ j : Nat, i ≤ j → j < a.length → rd a (j : Int) = rd b (j : Int)) := by
      intro d
      induction d with
      | zero =>
        intro i h
        refine ⟨true, ev_succ ?_, by simp; intro j h1 h2; omega⟩
        have h1 : ¬ ((i : Int) < (a.length : Int)) := by omega
        simp only [laws_eqIntS.l0, h1, if_false]
        exact Ev.now _
      | succ d ih =>
        intro i h
        have h1 : (i : Int) < (a.length : Int) := by omega
        have h2 : (0 : Int) ≤ (i : Int) := by omega
        have h3 : (i : Int) < (b.length : Int) := by omega
        have h4 := w64s i (by omega)
        by_cases c : rd a (i : Int) = rd b (i : Int)
        · obtain ⟨c', i1, i2⟩ := ih (i + 1) (by omega)
          refine ⟨c', ev_succ ?_, by
            rw [i2]
            constructor
            · intro k j j1 j2
              by_cases e : j = i
              · subst e; exact c
              · exact k j (by omega) j2
            · intro k j j1 j2
              exact k j (by omega) j2⟩
          simp only [laws_eqIntS.l0, h1, h2, h3, h4, c, if_true]
          exact i1
        · refine ⟨false, ev_succ ?_, by
            simp only [Bool.false_eq_true, false_iff]
            intro k
            exact c (k i (Nat.le_refl _) (by omega))⟩
          simp only [laws_eqIntS.l0, h1, h2, h3, c, if_true, if_false]
          exact Ev.now _
    obtain ⟨c, i1, i2⟩ := H a.length 0 (by omega)
    have : decide (a = b) = c := by
      rw [Bool.eq_iff_iff, i2, decide_eq_true_iff]
      constructor
      · intro e j _ _
        rw [e]
      · intro k
        exact ext_rd hl' (fun j hj => k j (Nat.zero_le _) hj)
    rw [this]
    exact i1
  · simp only [hl, if_false]
    have : decide (a = b) = false := by
      rw [decide_eq_false_iff_not]
      intro e
      exact hl (by rw [e])
    rw [this]
    exact Ev.now _
theorem eqInts_same (a : List Int) (ha : a.length ≤ 9000000000000000000) : Ev (fun k => laws_eqIntS.f k a a) true := by
  have := eqInts_ev a a ha
  simpa using this
theorem eqSurf_same (r u : List Int) (hr : r.length ≤ 9000000000000000000) (hu : u.length ≤ 9000000000000000000) : Ev (fun k => laws_eqSurface.f k r u r u) true := by
  unfold laws_eqSurface.f
  refine Ev.bind (eqInts_same r hr) ?_
  simp only [if_true]
  refine Ev.bind (eqInts_same u hu) ?_
  simp only [if_true]
  exact Ev.now _
theorem inv_of {p c : List Nat} (hp : IsP p) (hc : c.length = p.length) (h : ∀ j, j < p.length → g c (g p j) = j) : c = inv p := by
  refine ext_g (by rw [inv_len, hc]) (fun x hx => ?_)
  rw [hc] at hx
  rw [g_inv hx]
  have := h (ix p x) (ix_lt hp hx)
  rw [g_ix hp hx] at this
  exact this
theorem inv_step {p c : List Nat} (hp : IsP p) {i : Nat} (hi : i < p.length) (hc : c.length = p.length) (h : ∀ j, j < i → g c (g p j) = j) : ∀ j, j < i + 1 → g (c.set (g p i) i) (g p j) = j := by
  intro j hj
  rw [g_set (by rw [hc]; exact g_lt hp hi)]
  by_cases e : j = i
  · subst e
    simp
  · rw [if_neg (fun k => e (g_inj hp (by omega) hi k.symm))]
    exact h j (by omega)
theorem spec_inv {p : List Nat} (hp : IsP p) (h24 : p.length ≤ 24) : Ev (fun k => spec_l02Inverse.f k (I p)) (I (inv p)) := by
  unfold spec_l02Inverse.f
  have H : ∀ (d i : Nat) (c : List Nat), i + d = p.length → c.length = p.length → (∀ j, j < i → g c (g p j) = j) → Ev (fun k => spec_l02Inverse.l0 k (I c) (I p) (p.length : Int) (i : Int)) (I (inv p)) := by
    intro d
    induction d with
    | zero =>
      intro i c h hc hx
      refine ev_succ ?_
      have h1 : ¬ ((i : Int) < (p.length : Int)) := by omega
      rw [← inv_of hp hc (fun j hj => hx j (by omega))]
      simp only [spec_l02Inverse.l0, h1, if_false]
      exact Ev.now _
    | succ d ih =>
      intro i c h hc hx
      refine ev_succ ?_
      have hi : i < p.length := by omega
      have h1 : (i : Int) < (p.length : Int) := by omega
      have h2 : (0 : Int) ≤ (i : Int) := by omega
      have h3 := w64s i (by omega)
      have h4 : (0 : Int) ≤ ((g p i : Nat) : Int) := by omega
      have h5 : ((g p i : Nat) : Int) < (c.length : Int) := by have := g_lt hp hi; omega
      simp only [spec_l02Inverse.l0, h1, h2, h3, h4, h5, rdI, I_len', I_set, if_true, Int.toNat_natCast]
      exact ih (i + 1) _ (by omega) (by rw [List.length_set]; exact hc) (inv_step hp hi hc hx)
  have h1 : (0 : Int) ≤ (p.length : Int) := by omega
  have h2 : p.length ≤ 35184372088832 := by omega
  simp only [I_len', h1, h2, if_true, Int.toNat_natCast]
  have := H p.length 0 (List.replicate p.length 0) (by omega) (by simp) (fun j hj => by omega)
  rw [I_rep] at this
  exact this
theorem impl_inv {p : List Nat} (hp : IsP p) (h24 : p.length ≤ 24) : Ev (fun k => impl_InversePerm.f k (I p)) (I (inv p)) := by
  unfold impl_InversePerm.f
  have H : ∀ (d i : Nat) (c : List Nat), i + d = p.length → c.length = p.length → (∀ j, j < i → g c (g p j) = j) → Ev (fun k => impl_InversePerm.l0 k (I c) (I p) (p.length : Int) (i : Int)) (I (inv p)) := by
    intro d
    induction d with
    | zero =>
      intro i c h hc hx
      refine ev_succ ?_
      have h1 : ¬ ((i : Int) < (p.length : Int)) := by omega
      rw [← inv_of hp hc (fun j hj => hx j (by omega))]
      simp only [impl_InversePerm.l0, h1, if_false]
      exact Ev.now _
    | succ d ih =>
      intro i c h hc hx
      refine ev_succ ?_
      have hi : i < p.length := by omega
      have h1 : (i : Int) < (p.length : Int) := by omega
      have h2 : (0 : Int) ≤ (i : Int) := by omega
      have h3 := w64s i (by omega)
      have h4 : (0 : Int) ≤ ((g p i : Nat) : Int) := by omega
      have h5 : ((g p i : Nat) : Int) < (c.length : Int) := by have := g_lt hp hi; omega
      simp only [impl_InversePerm.l0, h1, h2, h3, h4, h5, rdI, I_len', I_set, if_true, Int.toNat_natCast]
      exact ih (i + 1) _ (by omega) (by rw [List.length_set]; exact hc) (inv_step hp hi hc hx)
  refine Ev.bind (impl_permOk (I p)) ?_
  have h0 : permB (I p) = true := permB_I.mpr ⟨hp, h24⟩
  have h1 : (0 : Int) ≤ (p.length : Int) := by omega
  have h2 : p.length ≤ 35184372088832 := by omega
  simp only [h0, I_len', h1, h2, if_true, Int.toNat_natCast]
  have := H p.length 0 (List.replicate p.length 0) (by omega) (by simp) (fun j hj => by omega)
  rw [I_rep] at this
  exact this
end Go.Proofs.Ytcggfjpnfodbaaa.M
end
section
/- Names from a square, and renaming: the program and the reference act alike. No conditions. -/
namespace Go.Proofs.Ytcggfjpnfodbaaa.M
set_option linter.unusedVariables false
set_option linter.unusedSimpArgs false
open Go.RowKit Go.Proofs.YtcggfjpnfodbaaaW.PrintWords Go.Proofs.YtcggfjpnfodbaaaW.PrintLast Go.Proofs.YtcggfjpnfodbaaaW.PrintMore Go.Proofs.Ytcggfjpnfodbaaa.A
theorem set_mid5 {α : Type} (p : List α) (x y : α) (xs : List α) : (p ++ x :: xs).set p.length y = p ++ y :: xs := by
  induction p with
  | nil => rfl
  | cons a p ih => simp [ih]
theorem isP_reach {r u : List Nat} (hs : Sf r u) {s : Nat} (h : s < r.length) : IsP (reach r u s) ∧ (reach r u s).length = r.length := by
  obtain ⟨h1, h2⟩ := reach_full hs h
  have l1 := h1.le
  have l2 := nodup_sub_len5 (List.range r.length) (reach r u s) List.nodup_range (fun x hx => h2 x (List.mem_range.mp hx))
  rw [List.length_range] at l2
  have hl : (reach r u s).length = r.length := by omega
  exact ⟨⟨fun x hx => by rw [hl]; exact h1.lt x hx, h1.nd⟩, hl⟩
def nm (r u : List Nat) (s : Nat) : List Nat := inv (reach r u s)
theorem isP_nm {r u : List Nat} (hs : Sf r u) {s : Nat} (h : s < r.length) : IsP (nm r u s) ∧ (nm r u s).length = r.length := by
  obtain ⟨h1, h2⟩ := isP_reach hs h
  exact ⟨isP_inv h1, by unfold nm; rw [inv_len, h2]⟩
theorem ren_of {p q c : List Nat} (hq : IsP q) (hl : q.length = p.length) (hc : c.length = p.length) (h : ∀ j, j < p.length → g c (g q j) = g q (g p j)) : c = ren p q := by
  refine ext_g (by rw [ren_len, hc]) (fun x hx => ?_)
  rw [hc] at hx
  rw [g_ren hx]
  have hx' : ix q x < q.length := ix_lt hq (by omega)
  have := h (ix q x) (by omega)
  rw [g_ix hq (by omega)] at this
  exact this
theorem ren_step {p q c : List Nat} (hq : IsP q) (hl : q.length = p.length) {i : Nat} (hi : i < p.length) (hc : c.length = p.length) (h : ∀ j, j < i → g c (g q j) = g q (g p j)) : ∀ j, j < i + 1 → g (c.set (g q i) (g q (g p i))) (g q j) = g q (g p j) := by
  intro j hj
  have hlt : g q i < c.length := by rw [hc, ← hl]; exact g_lt hq (by omega)
  rw [g_set hlt]
  by_cases e : j = i
  · subst e
    simp
  · rw [if_neg (fun k => e (g_inj hq (by omega) (by omega) k.symm))]
    exact h j (by omega)
theorem spec_ren {p q : List Nat} (hp : IsP p) (hq : IsP q) (hl : q.length = p.length) (h24 : p.length ≤ 24) : Ev (fun k => spec_l02Rename.f k (I p) (I q)) (I (ren p q)) := by
  unfold spec_l02Rename.f
  have H : ∀ (d i : Nat) (c : List Nat), i + d = p.length → c.length = p.length → (∀ j, j < i → g c (g q j) = g q (g p j)) → Ev (fun k => spec_l02Rename.l0 k (I q) (I c) (I p) (p.length : Int) (i : Int)) (I (ren p q)) := by
    intro d
    induction d with
    | zero =>
      intro i c h hc hx
      refine ev_succ ?_
      have h1 : ¬ ((i : Int) < (p.length : Int)) := by omega
      rw [← ren_of hq hl hc (fun j hj => hx j (by omega))]
      simp only [spec_l02Rename.l0, h1, if_false]
      exact Ev.now _
    | succ d ih =>
      intro i c h hc hx
      refine ev_succ ?_
      have hi : i < p.length := by omega
      have k1 := g_lt hp hi
      have k2 := g_lt hq (i := i) (by omega)
      have h1 : (i : Int) < (p.length : Int) := by omega
      have h2 : (0 : Int) ≤ (i : Int) := by omega
      have h4 : (i : Int) < (q.length : Int) := by omega
      have h5 : (0 : Int) ≤ ((g p i : Nat) : Int) := by omega
      have h6 : ((g p i : Nat) : Int) < (q.length : Int) := by omega
      have h7 : (0 : Int) ≤ ((g q i : Nat) : Int) := by omega
      have h8 : ((g q i : Nat) : Int) < (c.length : Int) := by omega
      have h3 := w64s i (by omega)
      simp only [spec_l02Rename.l0, h1, h2, h3, h4, h5, h6, h7, h8, rdI, I_len', I_set, if_true, Int.toNat_natCast]
      exact ih (i + 1) _ (by omega) (by rw [List.length_set]; exact hc) (ren_step hq hl hi hc hx)
  have h1 : (0 : Int) ≤ (p.length : Int) := by omega
  have h2 : p.length ≤ 35184372088832 := by omega
  simp only [I_len', h1, h2, if_true, Int.toNat_natCast]
  have := H p.length 0 (List.replicate p.length 0) (by omega) (by simp) (fun j hj => by omega)
  rw [I_rep] at this
  exact this
theorem impl_ren {p q : List Nat} (hp : IsP p) (hq : IsP q) (hl : q.length = p.length) (h24 : p.length ≤ 24) : Ev (fun k => impl_RenamePerm.f k (I p) (I q)) (I (ren p q)) := by
  unfold impl_RenamePerm.f
  have H : ∀ (d i : Nat) (c : List Nat), i + d = p.length → c.length = p.length → (∀ j, j < i → g c (g q j) = g q (g p j)) → Ev (fun k => impl_RenamePerm.l0 k (I q) (I c) (I p) (p.length : Int) (i : Int)) (I (ren p q)) := by
    intro d
    induction d with
    | zero =>
      intro i c h hc hx
      refine ev_succ ?_
      have h1 : ¬ ((i : Int) < (p.length : Int)) := by omega
      rw [← ren_of hq hl hc (fun j hj => hx j (by omega))]
      simp only [impl_RenamePerm.l0, h1, if_false]
      exact Ev.now _
    | succ d ih =>
      intro i c h hc hx
      refine ev_succ ?_
      have hi : i < p.length := by omega
      have k1 := g_lt hp hi
      have k2 := g_lt hq (i := i) (by omega)
      have h1 : (i : Int) < (p.length : Int) := by omega
      have h2 : (0 : Int) ≤ (i : Int) := by omega
      have h4 : (i : Int) < (q.length : Int) := by omega
      have h5 : (0 : Int) ≤ ((g p i : Nat) : Int) := by omega
      have h6 : ((g p i : Nat) : Int) < (q.length : Int) := by omega
      have h7 : (0 : Int) ≤ ((g q i : Nat) : Int) := by omega
      have h8 : ((g q i : Nat) : Int) < (c.length : Int) := by omega
      have h3 := w64s i (by omega)
      simp only [impl_RenamePerm.l0, h1, h2, h3, h4, h5, h6, h7, h8, rdI, I_len', I_set, if_true, Int.toNat_natCast]
      exact ih (i + 1) _ (by omega) (by rw [List.length_set]; exact hc) (ren_step hq hl hi hc hx)
  have b1 : permB (I p) = true := permB_I.mpr ⟨hp, h24⟩
  have b2 : permB (I q) = true := permB_I.mpr ⟨hq, by omega⟩
  refine Ev.bind (impl_permOk _) ?_
  simp only [b1, if_true]
  refine Ev.bind (impl_permOk _) ?_
  have e : ((p.length : Int) != (q.length : Int)) = false := by rw [bne_eq_false_iff_eq]; omega
  simp only [b2, I_len', e, if_true]
  refine ev_succ ?_
  have h1 : (0 : Int) ≤ (p.length : Int) := by omega
  have h2 : p.length ≤ 35184372088832 := by omega
  simp only [impl_RenamePerm.j0, I_len', h1, h2, Bool.false_eq_true, if_false, if_true, Int.toNat_natCast]
  have := H p.length 0 (List.replicate p.length 0) (by omega) (by simp) (fun j hj => by omega)
  rw [I_rep] at this
  exact this
def rnS (r u q : List Nat) : List Nat × List Nat := (ren r q, ren u q)
theorem spec_renS {r u q : List Nat} (hs : Sf r u) (hq : IsP q) (hl : q.length = r.length) : Ev (fun k => spec_l03Rename.f k (I r) (I u) (I q)) (I (rnS r u q).1, I (rnS r u q).2) := by
  unfold spec_l03Rename.f
  exact Ev.bind (spec_ren hs.pr hq hl hs.le) (Ev.bind (spec_ren hs.pu hq (by rw [hl, hs.eq]) (by rw [hs.eq]; exact hs.le)) (Ev.now _))
theorem impl_renS {r u q : List Nat} (hs : Sf r u) (hq : IsP q) (hl : q.length = r.length) : Ev (fun k => impl_RenameSurface.f k (I r) (I u) (I q)) (I (rnS r u q).1, I (rnS r u q).2, true) := by
  unfold impl_RenameSurface.f
  have h0 := surfB_I.mpr hs
  have hle := hs.le
  have b2 : permB (I q) = true := permB_I.mpr ⟨hq, by omega⟩
  refine Ev.bind (impl_surf _ _) ?_
  simp only [h0, if_true]
  refine Ev.bind (impl_permOk _) ?_
  have e : ((q.length : Int) != (r.length : Int)) = false := by rw [bne_eq_false_iff_eq]; omega
  simp only [b2, I_len', e, if_true]
  refine ev_succ ?_
  simp only [impl_RenameSurface.j0, Bool.false_eq_true, if_false]
  exact Ev.bind (impl_ren hs.pr hq hl hs.le) (Ev.bind (impl_ren hs.pu hq (by rw [hl, hs.eq]) (by rw [hs.eq]; exact hs.le)) (Ev.now _))
theorem spec_names {r u : List Nat} (hs : Sf r u) {s : Nat} (h : s < r.length) : Ev (fun k => spec_l03Names.f k (I r) (I u) (s : Int)) (I (nm r u s)) := by
  obtain ⟨h1, h2⟩ := isP_reach hs h
  unfold spec_l03Names.f
  exact Ev.bind (reach_ev hs.pr hs.pu hs.eq hs.le s h) (Ev.bind (spec_inv h1 (by rw [h2]; exact hs.le)) (Ev.now _))
def nmP (n : Nat) (out : List Nat) : List Int := (List.range n).map (fun x => if x ∈ out then ((out.idxOf x : Nat) : Int) else -1)
theorem nmP_len (n : Nat) (out : List Nat) : (nmP n out).length = n := by simp [nmP]
theorem rd_nmP {n : Nat} {out : List Nat} {x : Nat} (h : x < n) : rd (nmP n out) (x : Int) = if x ∈ out then ((out.idxOf x : Nat) : Int) else -1 := by
  rw [rd_get _ _ (by rw [nmP_len]; exact h)]
  simp [nmP]
theorem nmP_add {n : Nat} {out : List Nat} {x : Nat} (h : x < n) (hn : x ∉ out) : (nmP n out).set x (out.length : Int) = nmP n (out ++ [x]) := by
  refine ext_rd (by rw [List.length_set, nmP_len, nmP_len]) (fun i hi => ?_)
  rw [List.length_set, nmP_len] at hi
  rw [rd_set (by rw [nmP_len]; exact h), rd_nmP hi, rd_nmP hi]
  by_cases e : x = i
  · subst e
    have : x ∈ out ++ [x] := by simp
    rw [if_pos rfl, if_pos this, List.idxOf_append, if_neg hn]
    simp
  · rw [if_neg e]
    by_cases hm : i ∈ out
    · have : i ∈ out ++ [x] := by simp [hm]
      rw [if_pos hm, if_pos this, List.idxOf_append, if_pos hm]
    · have : i ∉ out ++ [x] := by simp [hm]; omega
      rw [if_neg hm, if_neg this]
theorem nmP_full {n : Nat} {out : List Nat} (hl : out.length = n) (h : ∀ x, x < n → x ∈ out) : nmP n out = I (inv out) := by
  refine ext_rd (by rw [nmP_len, I_len, inv_len, hl]) (fun i hi => ?_)
  rw [nmP_len] at hi
  rw [rd_nmP hi, if_pos (h i hi), rdI, g_inv (by omega)]
  rfl
theorem names_one {p q : List Nat} {out pr : List Nat} (a j : Nat) (hj : j < pr.length) (hpr : pr.length ≤ 2) (hl : out.length ≤ 1000) (hx : g pr j < p.length) (res : List Int)
    (H : Ev (fun k => impl_NamesFrom.l2 k (nmP p.length (st1 out (g pr j))) (I (st1 out (g pr j))) (a : Int) (I pr) (pr.length : Int) ((j + 1 : Nat) : Int) (I p) (I q)) res) :
    Ev (fun k => impl_NamesFrom.l2 k (nmP p.length out) (I out) (a : Int) (I pr) (pr.length : Int) (j : Int) (I p) (I q)) res := by
  refine ev_succ ?_
  have h1 : (j : Int) < (pr.length : Int) := by omega
  have h2 : (0 : Int) ≤ (j : Int) := by omega
  have h4 : (I out).length < 17592186044416 := by rw [I_len]; omega
  have h5 : (0 : Int) ≤ ((g pr j : Nat) : Int) := by omega
  have h6 : ((g pr j : Nat) : Int) < ((nmP p.length out).length : Int) := by rw [nmP_len]; omega
  have h7 : rd (nmP p.length out) ((g pr j : Nat) : Int) = if g pr j ∈ out then ((out.idxOf (g pr j) : Nat) : Int) else -1 := rd_nmP hx
  have h3 := w64s j (by omega)
  by_cases hin : g pr j ∈ out
  · have e : st1 out (g pr j) = out := by unfold st1; rw [if_pos hin]
    rw [e] at H
    rw [if_pos hin] at h7
    have h8 : ¬ (((out.idxOf (g pr j) : Nat) : Int) < 0) := by omega
    simp only [impl_NamesFrom.l2, h1, h2, h3, h5, h6, h7, h8, rdI, I_len', if_true, if_false]
    exact H
  · have e : st1 out (g pr j) = out ++ [g pr j] := by unfold st1; rw [if_neg hin]
    rw [e, ← nmP_add hx hin, ← I_snoc] at H
    rw [if_neg hin] at h7
    have h8 : (-1 : Int) < 0 := by omega
    simp only [impl_NamesFrom.l2, h1, h2, h3, h4, h5, h6, h7, h8, rdI, I_len', if_true, Int.toNat_natCast]
    exact H
theorem names_loop {p q : List Nat} (hp : IsP p) (hq : IsP q) (hl : q.length = p.length) (h24 : p.length ≤ 24) (f : Nat) : ∀ (a : Nat) (out : List Nat), RInv p.length out → a ≤ out.length → p.length < f + a →
    Ev (fun k => impl_NamesFrom.l1 k (nmP p.length out) (I out) (a : Int) (I p) (I q)) (nmP p.length (bfs p q f a out)) := by
  induction f with
  | zero =>
    intro a out hr ha hf
    have := hr.le
    omega
  | succ f ih =>
    intro a out hr ha hf
    have hle := hr.le
    refine ev_succ ?_
    by_cases h : a < out.length
    · have hx := hr.g h
      have hg1 := g_lt hp hx
      have hg2 : g q (g out a) < p.length := by have := g_lt hq (i := g out a) (by omega); omega
      have r1 := hr.st hg1
      have r2 := r1.st hg2
      have h1 : (a : Int) < (out.length : Int) := by omega
      have h2 : (0 : Int) ≤ (a : Int) := by omega
      have h3 : ((g out a : Nat) : Int) < (p.length : Int) := by omega
      have h4 : (0 : Int) ≤ ((g out a : Nat) : Int) := by omega
      have h5 : ((g out a : Nat) : Int) < (q.length : Int) := by omega
      have hb : bfs p q (f + 1) a out = bfs p q f (a + 1) (st1 (st1 out (g p (g out a))) (g q (g out a))) := by
        rw [bfs, if_pos h]
      rw [hb]
      have key := ih (a + 1) _ r2 (Nat.le_trans (by omega : a + 1 ≤ out.length) (Nat.le_trans (st1_len _ _) (st1_len _ _))) (by omega)
      have hq1 : a ≤ 9000000000000000000 := by omega
      have l1 := r1.le
      simp only [impl_NamesFrom.l1, h1, h2, h3, h4, h5, rdI, I_len', if_true, Option.bind_some, I_pair]
      refine names_one (q := q) a 0 (by simp) (by simp) (by omega) hg1 _ ?_
      refine names_one (q := q) a 1 (by simp) (by simp) (by simp only [g, List.getD_cons_zero] at l1 ⊢; omega) hg2 _ ?_
      refine ev_succ ?_
      have h7 : ¬ (((1 + 1 : Nat) : Int) < (([g p (g out a), g q (g out a)] : List Nat).length : Int)) := by simp
      have h6 := w64s a hq1
      simp only [impl_NamesFrom.l2, h7, h6, if_false]
      exact key
    · have h1 : ¬ ((a : Int) < (out.length : Int)) := by omega
      have hb : bfs p q (f + 1) a out = out := by rw [bfs, if_neg h]
      rw [hb]
      simp only [impl_NamesFrom.l1, h1, I_len', if_false]
      exact Ev.now _
theorem impl_names {r u : List Nat} (hs : Sf r u) {s : Nat} (h : s < r.length) : Ev (fun k => impl_NamesFrom.f k (I r) (I u) (s : Int)) (I (nm r u s)) := by
  have hle := hs.le
  have h0 := surfB_I.mpr hs
  obtain ⟨k1, k2⟩ := reach_full hs h
  obtain ⟨_, k3⟩ := isP_reach hs h
  have fin := names_loop hs.pr hs.pu hs.eq hs.le (r.length + 1) 0 [s] ⟨by simp, by simpa using h⟩ (by simp) (by omega)
  have e1 : bfs r u (r.length + 1) 0 [s] = reach r u s := rfl
  rw [e1, nmP_full k3 k2] at fin
  have H : ∀ d i : Nat, i + d = r.length → Ev (fun k => impl_NamesFrom.l0 k (s : Int) (List.replicate i (-1) ++ List.replicate d 0) (r.length : Int) (i : Int) (I r) (I u)) (I (nm r u s)) := by
    intro d
    induction d with
    | zero =>
      intro i hi
      obtain rfl : i = r.length := by omega
      refine ev_succ ?_
      have c1 : ¬ ((r.length : Int) < (r.length : Int)) := by omega
      have c2 : (0 : Int) ≤ (s : Int) := by omega
      have c3 : (s : Int) < (((List.replicate r.length (-1) ++ List.replicate 0 0 : List Int)).length : Int) := by simp; omega
      have c4 : (List.replicate r.length (-1) ++ List.replicate 0 0 : List Int).set ((s : Int)).toNat 0 = nmP r.length [s] := by
        refine ext_rd (by rw [List.length_set, nmP_len]; simp) (fun i hi => ?_)
        rw [List.length_set] at hi
        have hi' : i < r.length := by simpa using hi
        rw [Int.toNat_natCast, rd_set (by simp; exact h), rd_nmP hi']
        by_cases e : s = i
        · subst e
          simp
        · rw [if_neg e]
          have : i ∉ [s] := by simp; omega
          rw [if_neg this, rd_get _ _ hi]
          simp
      simp only [impl_NamesFrom.l0, c1, c2, c3, c4, if_true, if_false]
      exact fin
    | succ d ih =>
      intro i hi
      refine ev_succ ?_
      have c1 : (i : Int) < (r.length : Int) := by omega
      have c2 : (0 : Int) ≤ (i : Int) := by omega
      have c3 : (i : Int) < (((List.replicate i (-1) ++ List.replicate (d + 1) 0 : List Int)).length : Int) := by simp; omega
      have c4 : (List.replicate i (-1) ++ List.replicate (d + 1) 0 : List Int).set ((i : Int)).toNat (-1) = List.replicate (i + 1) (-1) ++ List.replicate d 0 := by
        have hm := set_mid5 (List.replicate i (-1 : Int)) 0 (-1) (List.replicate d 0)
        rw [List.length_replicate] at hm
        rw [Int.toNat_natCast, List.replicate_succ, hm, List.replicate_succ', List.append_assoc]
        rfl
      have c5 := w64s i (by omega)
      simp only [impl_NamesFrom.l0, c1, c2, c3, c4, c5, if_true]
      exact ih (i + 1) (by omega)
  unfold impl_NamesFrom.f
  refine Ev.bind (impl_surf _ _) ?_
  have n1 : ¬ ((s : Int) < 0) := by omega
  have n2 : decide ((s : Int) ≥ (r.length : Int)) = false := by rw [decide_eq_false_iff_not]; omega
  simp only [h0, n1, n2, I_len', if_true, if_false]
  refine ev_succ ?_
  have z1 : (0 : Int) ≤ (r.length : Int) := by omega
  have z2 : r.length ≤ 35184372088832 := by omega
  simp only [impl_NamesFrom.j0, Bool.false_eq_true, I_len', z1, z2, if_true, if_false, Int.toNat_natCast, Option.bind_some, List.length_replicate]
  have := H r.length 0 (Nat.zero_add _)
  simpa using this
end Go.Proofs.Ytcggfjpnfodbaaa.M
end
section
/- The canonical form: the program and the reference find the same one. No conditions. -/
namespace Go.Proofs.Ytcggfjpnfodbaaa.M
set_option linter.unusedVariables false
set_option linter.unusedSimpArgs false
open Go.RowKit Go.Proofs.YtcggfjpnfodbaaaW.PrintWords Go.Proofs.YtcggfjpnfodbaaaW.PrintLast Go.Proofs.YtcggfjpnfodbaaaW.PrintMore Go.Proofs.Ytcggfjpnfodbaaa.A
def lexC : List Nat → List Nat → Int
  | [], [] => 0
  | [], _ :: _ => -1
  | _ :: _, [] => 1
  | a :: l, b :: m => if a < b then -1 else if b < a then 1 else lexC l m
theorem cmp_ev (a b : Nat) : cmp_Compare_int.f (a : Int) (b : Int) = some (if a < b then -1 else if b < a then 1 else 0) := by
  unfold cmp_Compare_int.f cmp_isNaN_int.f
  simp only [bne_self_eq_false, Option.bind_some, Bool.false_eq_true, if_false]
  by_cases h1 : a < b
  · have : (a : Int) < (b : Int) := by omega
    simp only [h1, this, if_true]
  · have n1 : ¬ (a : Int) < (b : Int) := by omega
    by_cases h2 : b < a
    · have : (a : Int) > (b : Int) := by omega
      simp only [h1, n1, h2, this, if_true, if_false]
    · have n2 : ¬ (a : Int) > (b : Int) := by omega
      simp only [h1, n1, h2, n2, if_false]
theorem lexC_eq : ∀ (a b : List Nat), lexC a b = 0 ↔ a = b := by
  intro a
  induction a with
  | nil => intro b; cases b <;> simp [lexC]
  | cons x a ih =>
    intro b
    cases b with
    | nil => simp [lexC]
    | cons y b =>
      unfold lexC
      by_cases h1 : x < y
      · simp [h1]; omega
      · by_cases h2 : y < x
        · simp [h1, h2]; omega
        · have e : x = y := by omega
          subst e
          simp [h1, ih]
theorem compare_ev (a b : List Nat) (hl : a.length ≤ 1000000) : Ev (fun k => slices_Compare_int_int.f k (I a) (I b)) (lexC a b) := by
  unfold slices_Compare_int_int.f
  have H : ∀ d i : Nat, i + d = a.length → i ≤ b.length → Ev (fun k => slices_Compare_int_int.l0 k (I a) (I b) (I a) (a.length : Int) (i : Int)) (lexC (a.drop i) (b.drop i)) := by
    intro d
    induction d with
    | zero =>
      intro i hi hb
      refine ev_succ ?_
      have c1 : ¬ ((i : Int) < (a.length : Int)) := by omega
      rw [List.drop_of_length_le (l := a) (by omega)]
      simp only [slices_Compare_int_int.l0, c1, I_len', if_false]
      by_cases h : (a.length : Int) < (b.length : Int)
      · have : lexC [] (b.drop i) = -1 := by
          rw [List.drop_eq_getElem_cons (by omega)]
          rfl
        simp only [h, if_true, this]
        exact Ev.now _
      · have : lexC [] (b.drop i) = 0 := by
          rw [List.drop_of_length_le (by omega)]
          rfl
        simp only [h, if_false, this]
        exact Ev.now _
    | succ d ih =>
      intro i hi hb
      have hia : i < a.length := by omega
      rw [List.drop_eq_getElem_cons hia, ← g_get hia]
      have c1 : (i : Int) < (a.length : Int) := by omega
      have c2 : (0 : Int) ≤ (i : Int) := by omega
      have c3 := w64s i (by omega)
      refine ev_succ ?_
      by_cases h : i < b.length
      · rw [List.drop_eq_getElem_cons h, ← g_get h]
        have n1 : ¬ ((i : Int) ≥ (b.length : Int)) := by omega
        have n2 : (i : Int) < (b.length : Int) := by omega
        simp only [slices_Compare_int_int.l0, c1, c2, c3, n1, n2, I_len', rdI, cmp_ev, Option.bind_some, if_true, if_false]
        unfold lexC
        by_cases h1 : g a i < g b i
        · have z : ¬ ((-1 : Int) = 0) := by omega
          simp only [h1, z, if_true, if_false]
          exact Ev.now _
        · by_cases h2 : g b i < g a i
          · have z : ¬ ((1 : Int) = 0) := by omega
            simp only [h1, h2, z, if_true, if_false]
            exact Ev.now _
          · simp only [h1, h2, if_true, if_false]
            exact ih (i + 1) (by omega) (by omega)
      · have n1 : (i : Int) ≥ (b.length : Int) := by omega
        rw [List.drop_of_length_le (l := b) (by omega)]
        simp only [slices_Compare_int_int.l0, c1, c2, n1, I_len', if_true]
        exact Ev.now _
  have key := H a.length 0 (Nat.zero_add _) (Nat.zero_le _)
  rw [List.drop_zero, List.drop_zero] at key
  simp only [I_len']
  exact key
theorem less_ev (a b : List Nat) (hl : a.length ≤ 1000000) (he : b.length = a.length) : Ev (fun k => spec_l03Less.f k (I a) (I b)) (decide (lexC a b < 0)) := by
  unfold spec_l03Less.f
  have H : ∀ d i : Nat, i + d = a.length → Ev (fun k => spec_l03Less.l0 k (I b) (I a) (a.length : Int) (i : Int)) (decide (lexC (a.drop i) (b.drop i) < 0)) := by
    intro d
    induction d with
    | zero =>
      intro i hi
      refine ev_succ ?_
      have c1 : ¬ ((i : Int) < (a.length : Int)) := by omega
      rw [List.drop_of_length_le (l := a) (by omega), List.drop_of_length_le (l := b) (by omega)]
      simp only [spec_l03Less.l0, c1, if_false]
      exact Ev.now _
    | succ d ih =>
      intro i hi
      have hia : i < a.length := by omega
      have hib : i < b.length := by omega
      rw [List.drop_eq_getElem_cons hia, ← g_get hia, List.drop_eq_getElem_cons hib, ← g_get hib]
      have c1 : (i : Int) < (a.length : Int) := by omega
      have c2 : (0 : Int) ≤ (i : Int) := by omega
      have n2 : (i : Int) < (b.length : Int) := by omega
      have c3 := w64s i (by omega)
      refine ev_succ ?_
      simp only [spec_l03Less.l0, c1, c2, c3, n2, I_len', rdI, if_true]
      unfold lexC
      by_cases h1 : g a i < g b i
      · have z1 : ¬ (((g a i : Nat) : Int) = ((g b i : Nat) : Int)) := by omega
        have z2 : decide (((g a i : Nat) : Int) < ((g b i : Nat) : Int)) = true := by rw [decide_eq_true_iff]; omega
        have z3 : decide ((-1 : Int) < 0) = true := by decide
        simp only [h1, z1, z2, z3, if_true, if_false]
        exact Ev.now _
      · by_cases h2 : g b i < g a i
        · have z1 : ¬ (((g a i : Nat) : Int) = ((g b i : Nat) : Int)) := by omega
          have z2 : decide (((g a i : Nat) : Int) < ((g b i : Nat) : Int)) = false := by rw [decide_eq_false_iff_not]; omega
          have z3 : decide ((1 : Int) < 0) = false := by decide
          simp only [h1, h2, z1, z2, z3, if_true, if_false]
          exact Ev.now _
        · have z1 : ((g a i : Nat) : Int) = ((g b i : Nat) : Int) := by omega
          simp only [h1, h2, z1, if_true, if_false]
          exact ih (i + 1) (by omega)
  have key := H a.length 0 (Nat.zero_add _)
  rw [List.drop_zero, List.drop_zero] at key
  simp only [I_len']
  exact key
def cmpS (a b : List Nat × List Nat) : Int := if lexC a.1 b.1 = 0 then lexC a.2 b.2 else lexC a.1 b.1
theorem impl_cmpS (a b : List Nat × List Nat) (h1 : a.1.length ≤ 1000000) (h2 : a.2.length ≤ 1000000) : Ev (fun k => impl_compareSurfaces.f k (I a.1) (I a.2) (I b.1) (I b.2)) (cmpS a b) := by
  unfold impl_compareSurfaces.f cmpS
  refine Ev.bind (compare_ev a.1 b.1 h1) ?_
  by_cases h : lexC a.1 b.1 = 0
  · simp only [h, if_true]
    exact Ev.bind (compare_ev a.2 b.2 h2) (Ev.now _)
  · simp only [h, if_false]
    exact Ev.now _
theorem sameList_nat (a b : List Nat) (h : a.length ≤ 1000000000) : Ev (fun k => spec_SameList.f k (I a) (I b)) (decide (a = b)) := by
  unfold spec_SameList.f
  by_cases hl : (a.length : Int) = (b.length : Int)
  · have hl' : a.length = b.length := by omega
    simp only [I_len', hl, ne_eq, not_true_eq_false, if_false, if_true]
    have H : ∀ d i : Nat, i + d = a.length → Ev (fun k => spec_SameList.l0 k (I b) (I a) (b.length : Int) (i : Int)) (decide (a.drop i = b.drop i)) := by
      intro d
      induction d with
      | zero =>
        intro i hi
        refine ev_succ ?_
        have c1 : ¬ ((i : Int) < (b.length : Int)) := by omega
        have e : decide (a.drop i = b.drop i) = true := by rw [List.drop_of_length_le (by omega), List.drop_of_length_le (by omega)]; simp
        simp only [spec_SameList.l0, c1, if_false, e]
        exact Ev.now _
      | succ d ih =>
        intro i hi
        have hia : i < a.length := by omega
        have hib : i < b.length := by omega
        rw [List.drop_eq_getElem_cons hia, ← g_get hia, List.drop_eq_getElem_cons hib, ← g_get hib]
        have c1 : (i : Int) < (b.length : Int) := by omega
        have c2 : (0 : Int) ≤ (i : Int) := by omega
        have c4 : (i : Int) < (a.length : Int) := by omega
        have c3 := w64s i (by omega)
        refine ev_succ ?_
        by_cases he : g a i = g b i
        · have z : ((g a i : Nat) : Int) = ((g b i : Nat) : Int) := by omega
          have e : decide (g a i :: a.drop (i + 1) = g b i :: b.drop (i + 1)) = decide (a.drop (i + 1) = b.drop (i + 1)) := by simp [he]
          rw [e]
          simp only [spec_SameList.l0, c1, c2, c3, c4, I_len', rdI, z, if_true]
          exact ih (i + 1) (by omega)
        · have z : ¬ (((g a i : Nat) : Int) = ((g b i : Nat) : Int)) := by omega
          have e : decide (g a i :: a.drop (i + 1) = g b i :: b.drop (i + 1)) = false := by simp [he]
          rw [e]
          simp only [spec_SameList.l0, c1, c2, c4, I_len', rdI, z, if_true, if_false]
          exact Ev.now _
    have key := H a.length 0 (Nat.zero_add _)
    rw [List.drop_zero, List.drop_zero] at key
    exact key
  · have e : decide (a = b) = false := by
      rw [decide_eq_false_iff_not]
      intro e
      rw [e] at hl
      exact hl rfl
    simp only [I_len', hl, ne_eq, not_false_eq_true, if_true, if_false, e]
    exact Ev.now _
theorem spec_before (a b : List Nat × List Nat) (h1 : a.1.length ≤ 1000000) (h2 : a.2.length ≤ 1000000) (e1 : b.1.length = a.1.length) (e2 : b.2.length = a.2.length) : Ev (fun k => spec_l03Before.f k (I a.1) (I a.2) (I b.1) (I b.2)) (decide (cmpS a b < 0)) := by
  unfold spec_l03Before.f cmpS
  refine Ev.bind (sameList_nat a.1 b.1 (by omega)) ?_
  by_cases h : a.1 = b.1
  · have z := (lexC_eq a.1 b.1).mpr h
    rw [z]
    simp only [h, decide_true, if_true]
    exact Ev.bind (less_ev a.2 b.2 h2 e2) (Ev.now _)
  · have z : ¬ lexC a.1 b.1 = 0 := fun k => h ((lexC_eq _ _).mp k)
    simp only [h, z, decide_false, Bool.false_eq_true, if_false]
    exact Ev.bind (less_ev a.1 b.1 h1 e1) (Ev.now _)
def rS (r u : List Nat) (s : Nat) : List Nat × List Nat := rnS r u (nm r u s)
theorem rS_len {r u : List Nat} (s : Nat) : (rS r u s).1.length = r.length ∧ (rS r u s).2.length = u.length := ⟨ren_len _ _, ren_len _ _⟩
def canK (r u : List Nat) : Nat → List Nat × List Nat
  | 0 => rS r u 0
  | k + 1 => if cmpS (rS r u (k + 1)) (canK r u k) < 0 then rS r u (k + 1) else canK r u k
theorem canK_len {r u : List Nat} (k : Nat) : (canK r u k).1.length = r.length ∧ (canK r u k).2.length = u.length := by
  induction k with
  | zero => exact rS_len 0
  | succ k ih =>
    unfold canK
    split
    · exact rS_len _
    · exact ih
def canS (r u : List Nat) : List Nat × List Nat := canK r u (r.length - 1)
theorem spec_canon {r u : List Nat} (hs : Sf r u) : Ev (fun k => spec_l03Canon.f k (I r) (I u)) (I (canS r u).1, I (canS r u).2) := by
  have hle := hs.le
  have heq := hs.eq
  have hpos := hs.pos
  unfold spec_l03Canon.f
  have e0 := spec_names hs hpos
  have q0 := isP_nm hs hpos
  refine Ev.bind e0 (Ev.bind (spec_renS hs q0.1 q0.2) ?_)
  have H : ∀ d i : Nat, i + 1 + d = r.length → Ev (fun k => spec_l03Canon.l0 k ((i + 1 : Nat) : Int) (I r) (I u) (I (canK r u i).1) (I (canK r u i).2)) (I (canS r u).1, I (canS r u).2) := by
    intro d
    induction d with
    | zero =>
      intro i hi
      refine ev_succ ?_
      have c1 : ¬ (((i + 1 : Nat) : Int) < (r.length : Int)) := by omega
      have e : canS r u = canK r u i := by
        unfold canS
        congr 1
        omega
      rw [e]
      simp only [spec_l03Canon.l0, c1, I_len', if_false]
      exact Ev.now _
    | succ d ih =>
      intro i hi
      have hi1 : i + 1 < r.length := by omega
      have q1 := isP_nm hs hi1
      have c1 : ((i + 1 : Nat) : Int) < (r.length : Int) := by omega
      have c3 := w64s (i + 1) (by omega)
      have lk := canK_len (r := r) (u := u) i
      have lr := rS_len (r := r) (u := u) (i + 1)
      refine ev_succ ?_
      simp only [spec_l03Canon.l0, c1, c3, I_len', if_true]
      refine Ev.bind (spec_names hs hi1) (Ev.bind (spec_renS hs q1.1 q1.2) ?_)
      refine Ev.bind (spec_before (rS r u (i + 1)) (canK r u i) (by rw [lr.1]; omega) (by rw [lr.2]; omega) (by rw [lr.1, lk.1]) (by rw [lr.2, lk.2])) ?_
      have key := ih (i + 1) (by omega)
      unfold canK at key
      by_cases h : cmpS (rS r u (i + 1)) (canK r u i) < 0
      · rw [if_pos h] at key
        simp only [h, decide_true, if_true]
        exact key
      · rw [if_neg h] at key
        simp only [h, decide_false, Bool.false_eq_true, if_false]
        exact key
  have key := H (r.length - 1) 0 (by omega)
  exact key
def namedL (r u : List Nat) (n : Nat) : List S25 := (List.range n).map (fun s => (⟨I (rS r u s).1, I (rS r u s).2⟩ : S25))
theorem namedL_len (r u : List Nat) (n : Nat) : (namedL r u n).length = n := by simp [namedL]
theorem rd_named {r u : List Nat} {n i : Nat} (h : i < n) : rd_T25 (namedL r u n) (i : Int) = ⟨I (rS r u i).1, I (rS r u i).2⟩ := by
  unfold rd_T25 namedL
  simp [List.getD_eq_getElem?_getD, h]
theorem count_sq {r u : List Nat} (hs : Sf r u) : Ev (fun k => impl_CountSquares.f k (I r) (I u)) (r.length : Int) := by
  unfold impl_CountSquares.f
  refine Ev.bind (impl_surf _ _) ?_
  have h0 := surfB_I.mpr hs
  simp only [h0, I_len', if_true]
  exact Ev.now _
theorem impl_named {r u : List Nat} (hs : Sf r u) : Ev (fun k => impl_namedFrom.f k (I r) (I u)) (namedL r u r.length) := by
  have hle := hs.le
  unfold impl_namedFrom.f
  have H : ∀ d i : Nat, i + d = r.length → Ev (fun k => impl_namedFrom.l0 k (namedL r u i) (i : Int) (I r) (I u)) (namedL r u r.length) := by
    intro d
    induction d with
    | zero =>
      intro i hi
      obtain rfl : i = r.length := by omega
      refine ev_succ ?_
      simp only [impl_namedFrom.l0]
      refine Ev.bind (count_sq hs) ?_
      have c1 : ¬ ((r.length : Int) < (r.length : Int)) := by omega
      simp only [c1, if_false]
      exact Ev.now _
    | succ d ih =>
      intro i hi
      have hil : i < r.length := by omega
      have q1 := isP_nm hs hil
      refine ev_succ ?_
      simp only [impl_namedFrom.l0]
      refine Ev.bind (count_sq hs) ?_
      have c1 : (i : Int) < (r.length : Int) := by omega
      have c2 : (namedL r u i).length < 2932031007402 := by rw [namedL_len]; omega
      have c3 := w64s i (by omega)
      simp only [c1, if_true]
      refine Ev.bind (impl_names hs hil) (Ev.bind (impl_renS hs q1.1 q1.2) ?_)
      have e : namedL r u i ++ [(⟨I (rnS r u (nm r u i)).1, I (rnS r u (nm r u i)).2⟩ : S25)] = namedL r u (i + 1) := by
        unfold namedL
        rw [List.range_succ, List.map_append]
        rfl
      simp only [c2, c3, e, if_true]
      exact ih (i + 1) (by omega)
  exact H r.length 0 (Nat.zero_add _)
theorem impl_canon {r u : List Nat} (hs : Sf r u) : Ev (fun k => impl_CanonOf.f k (I r) (I u)) (I (canS r u).1, I (canS r u).2, true) := by
  have hle := hs.le
  have heq := hs.eq
  have hpos := hs.pos
  unfold impl_CanonOf.f
  refine Ev.bind (impl_named hs) ?_
  have c0 : ¬ ((r.length : Int) = 0) := by omega
  simp only [namedL_len, c0, if_false]
  refine Ev.bind (a := (I (canS r u).1, I (canS r u).2)) ?_ (Ev.now _)
  unfold impl_Surface_76.f
  have c1 : ¬ ((r.length : Int) < 1) := by omega
  have c2 : (0 : Int) < (r.length : Int) := by omega
  have e0 : rd_T25 (namedL r u r.length) 0 = ⟨I (canK r u 0).1, I (canK r u 0).2⟩ := rd_named hpos
  simp only [namedL_len, c1, c2, e0, if_true, if_false]
  have H : ∀ d i : Nat, i + 1 + d = r.length → Ev (fun k => impl_Surface_76.l0 k (namedL r u r.length) ((i + 1 : Nat) : Int) (I (canK r u i).1) (I (canK r u i).2)) (I (canS r u).1, I (canS r u).2) := by
    intro d
    induction d with
    | zero =>
      intro i hi
      refine ev_succ ?_
      have c1 : ¬ (((i + 1 : Nat) : Int) < (r.length : Int)) := by omega
      have e : canS r u = canK r u i := by
        unfold canS
        congr 1
        omega
      rw [e]
      simp only [impl_Surface_76.l0, c1, namedL_len, if_false]
      exact Ev.now _
    | succ d ih =>
      intro i hi
      have hi1 : i + 1 < r.length := by omega
      have c1 : ((i + 1 : Nat) : Int) < (r.length : Int) := by omega
      have c2 : (0 : Int) ≤ ((i + 1 : Nat) : Int) := by omega
      have c4 : rd_T25 (namedL r u r.length) ((i + 1 : Nat) : Int) = ⟨I (rS r u (i + 1)).1, I (rS r u (i + 1)).2⟩ := rd_named hi1
      have c3 := w64s (i + 1) (by omega)
      have lr := rS_len (r := r) (u := u) (i + 1)
      refine ev_succ ?_
      simp only [impl_Surface_76.l0, c1, c2, c3, c4, namedL_len, if_true]
      refine Ev.bind (impl_cmpS (rS r u (i + 1)) (canK r u i) (by rw [lr.1]; omega) (by rw [lr.2]; omega)) ?_
      have key := ih (i + 1) (by omega)
      unfold canK at key
      by_cases h : cmpS (rS r u (i + 1)) (canK r u i) < 0
      · rw [if_pos h] at key
        simp only [h, if_true]
        exact key
      · rw [if_neg h] at key
        simp only [h, if_false]
        exact key
  exact H (r.length - 1) 0 (by omega)
theorem impl_canon_no {r u : List Int} (h : ¬ surfB r u = true) : Ev (fun k => impl_CanonOf.f k r u) ([], [], false) := by
  have h' := Bool.eq_false_iff.mpr h
  unfold impl_CanonOf.f
  refine Ev.bind (a := ([] : List S25)) ?_ ?_
  · unfold impl_namedFrom.f
    refine ev_succ ?_
    simp only [impl_namedFrom.l0]
    refine Ev.bind (a := (0 : Int)) ?_ ?_
    · unfold impl_CountSquares.f
      refine Ev.bind (impl_surf _ _) ?_
      simp only [h', Bool.false_eq_true, if_false]
      exact Ev.now _
    · have c1 : ¬ ((0 : Int) < 0) := by omega
      simp only [c1, if_false]
      exact Ev.now _
  · simp only [List.length_nil]
    exact Ev.now _
theorem equal_ev (a b : List Nat) (h : a.length ≤ 1000000000) : Ev (fun k => impl_SameList.f k (I a) (I b)) (decide (a = b)) := by
  unfold impl_SameList.f slices_Equal_int_int.f
  refine Ev.bind (a := decide (a = b)) ?_ (Ev.now _)
  by_cases hl : (a.length : Int) = (b.length : Int)
  · have hl' : a.length = b.length := by omega
    simp only [I_len', hl, if_true]
    have H : ∀ d i : Nat, i + d = a.length → Ev (fun k => slices_Equal_int_int.l0 k (I a) (I b) (b.length : Int) (i : Int)) (decide (a.drop i = b.drop i)) := by
      intro d
      induction d with
      | zero =>
        intro i hi
        refine ev_succ ?_
        have c1 : ¬ ((i : Int) < (b.length : Int)) := by omega
        have e : decide (a.drop i = b.drop i) = true := by rw [List.drop_of_length_le (by omega), List.drop_of_length_le (by omega)]; simp
        simp only [slices_Equal_int_int.l0, c1, if_false, e]
        exact Ev.now _
      | succ d ih =>
        intro i hi
        have hia : i < a.length := by omega
        have hib : i < b.length := by omega
        rw [List.drop_eq_getElem_cons hia, ← g_get hia, List.drop_eq_getElem_cons hib, ← g_get hib]
        have c1 : (i : Int) < (b.length : Int) := by omega
        have c2 : (0 : Int) ≤ (i : Int) := by omega
        have c4 : (i : Int) < (a.length : Int) := by omega
        have c3 := w64s i (by omega)
        refine ev_succ ?_
        by_cases he : g a i = g b i
        · have z : ((g a i : Nat) : Int) = ((g b i : Nat) : Int) := by omega
          have e : decide (g a i :: a.drop (i + 1) = g b i :: b.drop (i + 1)) = decide (a.drop (i + 1) = b.drop (i + 1)) := by simp [he]
          rw [e]
          simp only [slices_Equal_int_int.l0, c1, c2, c3, c4, I_len', rdI, z, if_true]
          exact ih (i + 1) (by omega)
        · have z : ¬ (((g a i : Nat) : Int) = ((g b i : Nat) : Int)) := by omega
          have e : decide (g a i :: a.drop (i + 1) = g b i :: b.drop (i + 1)) = false := by simp [he]
          rw [e]
          simp only [slices_Equal_int_int.l0, c1, c2, c4, I_len', rdI, z, if_true, if_false]
          exact Ev.now _
    have key := H a.length 0 (Nat.zero_add _)
    rw [List.drop_zero, List.drop_zero] at key
    exact key
  · have e : decide (a = b) = false := by
      rw [decide_eq_false_iff_not]
      intro e
      rw [e] at hl
      exact hl rfl
    simp only [I_len', hl, if_false, e]
    exact Ev.now _
end Go.Proofs.Ytcggfjpnfodbaaa.M
end
section
/- The canonical form tells which surfaces are alike. No conditions. -/
namespace Go.Proofs.Ytcggfjpnfodbaaa.M
set_option linter.unusedVariables false
set_option linter.unusedSimpArgs false
theorem is_rS {s : List Nat × List Nat} (hs : Sf s.1 s.2) {i : Nat} (hi : i < s.1.length) : Is s (rS s.1 s.2 i) (g (nm s.1 s.2 i)) := by
  obtain ⟨p, l⟩ := isP_nm hs hi
  refine ⟨(rS_len i).1, fun x hx => ?_, fun x y hx hy e => g_inj p (by rw [l]; exact hx) (by rw [l]; exact hy) e, fun x hx => ?_, fun x hx => ?_⟩
  · have := g_lt p (i := x) (by rw [l]; exact hx)
    rw [l] at this
    exact this
  · have h1 := g_lt p (i := x) (by rw [l]; exact hx)
    rw [l] at h1
    show _ = g (ren s.1 (nm s.1 s.2 i)) _
    rw [g_ren h1, ix_g p (by rw [l]; exact hx)]
  · have h1 := g_lt p (i := x) (by rw [l]; exact hx)
    rw [l] at h1
    show _ = g (ren s.2 (nm s.1 s.2 i)) _
    rw [g_ren (by rw [hs.eq]; exact h1), ix_g p (by rw [l]; exact hx)]
theorem sf_rS {s : List Nat × List Nat} (hs : Sf s.1 s.2) {i : Nat} (hi : i < s.1.length) : Sf (rS s.1 s.2 i).1 (rS s.1 s.2 i).2 := by
  obtain ⟨p, l⟩ := isP_nm hs hi
  have h := rS_len (r := s.1) (u := s.2) i
  exact hs.of_is (is_rS hs hi) (isP_ren hs.pr p l.symm) (isP_ren hs.pu p (by rw [l, hs.eq])) (by rw [h.1, h.2, hs.eq])
theorem canK_at (r u : List Nat) : ∀ k, ∃ i, i ≤ k ∧ canK r u k = rS r u i := by
  intro k
  induction k with
  | zero => exact ⟨0, Nat.le_refl _, rfl⟩
  | succ k ih =>
    obtain ⟨i, hi, e⟩ := ih
    unfold canK
    split
    · exact ⟨k + 1, Nat.le_refl _, rfl⟩
    · exact ⟨i, by omega, e⟩
theorem canS_at {r u : List Nat} (hs : Sf r u) : ∃ i, i < r.length ∧ canS r u = rS r u i := by
  obtain ⟨i, hi, e⟩ := canK_at r u (r.length - 1)
  have := hs.pos
  exact ⟨i, by omega, e⟩
theorem sf_canS {s : List Nat × List Nat} (hs : Sf s.1 s.2) : Sf (canS s.1 s.2).1 (canS s.1 s.2).2 := by
  obtain ⟨i, hi, e⟩ := canS_at hs
  rw [e]
  exact sf_rS hs hi
end Go.Proofs.Ytcggfjpnfodbaaa.M
end
section
/- One round about a corner; first places in lists. No conditions. -/
namespace Go.Proofs.Ytcggfjpnfodbaaa.M
set_option linter.unusedVariables false
set_option linter.unusedSimpArgs false
open Go.RowKit Go.Proofs.YtcggfjpnfodbaaaW.PrintWords Go.Proofs.YtcggfjpnfodbaaaW.PrintLast Go.Proofs.YtcggfjpnfodbaaaW.PrintMore Go.Proofs.Ytcggfjpnfodbaaa.A
theorem impl_then {p q : List Nat} (hp : IsP p) (hq : IsP q) (hl : p.length = q.length) (h24 : p.length ≤ 24) : Ev (fun k => impl_ThenPerm.f k (I p) (I q)) (I (thn p q)) := by
  unfold impl_ThenPerm.f
  refine Ev.bind (impl_permOk (I p)) ?_
  have e1 : permB (I p) = true := permB_I.mpr ⟨hp, h24⟩
  have e2 : permB (I q) = true := permB_I.mpr ⟨hq, by omega⟩
  simp only [e1, if_true]
  refine Ev.bind (impl_permOk (I q)) ?_
  have e3 : ((p.length : Int) != (q.length : Int)) = false := by simp [hl]
  simp only [e2, if_true, I_len', e3]
  refine ev_succ ?_
  have h1 : (0 : Int) ≤ (p.length : Int) := by omega
  have h2 : p.length ≤ 35184372088832 := by omega
  simp only [impl_ThenPerm.j0, Bool.false_eq_true, if_false, I_len', h1, h2, if_true, Int.toNat_natCast]
  have H : ∀ (d i : Nat) (c : List Nat), i + d = p.length → c.length = p.length → (∀ j, j < i → g c j = g q (g p j)) → Ev (fun k => impl_ThenPerm.l0 k (I q) (I c) (I p) (p.length : Int) (i : Int)) (I (thn p q)) := by
    intro d
    induction d with
    | zero =>
      intro i c h hc hx
      refine ev_succ ?_
      have h1 : ¬ ((i : Int) < (p.length : Int)) := by omega
      have e : thn p q = c := by
        refine (eq_tab hc (fun j hj => hx j (by omega))).symm
      simp only [impl_ThenPerm.l0, h1, if_false]
      rw [e]
      exact Ev.now _
    | succ d ih =>
      intro i c h hc hx
      refine ev_succ ?_
      have hi : i < p.length := by omega
      have gp := g_lt hp hi
      have c1 : (i : Int) < (p.length : Int) := by omega
      have c2 : (0 : Int) ≤ (i : Int) := by omega
      have c3 : (0 : Int) ≤ ((g p i : Nat) : Int) := by omega
      have c4 : ((g p i : Nat) : Int) < (q.length : Int) := by omega
      have c5 : (i : Int) < (c.length : Int) := by omega
      have h3 := w64s i (by omega)
      simp only [impl_ThenPerm.l0, c1, c2, c3, c4, c5, h3, rdI, I_len', I_set, if_true, Int.toNat_natCast]
      refine ih (i + 1) _ (by omega) (by rw [List.length_set]; exact hc) (fun j hj => ?_)
      rw [g_set (by omega)]
      by_cases e : i = j
      · subst e
        simp
      · rw [if_neg e]
        exact hx j (by omega)
  have := H p.length 0 (List.replicate p.length 0) (by omega) (by simp) (fun j hj => by omega)
  rw [I_rep] at this
  exact this
end Go.Proofs.Ytcggfjpnfodbaaa.M
end
section
/- Slopes and paths: the program and the reference answer alike. No conditions. -/
namespace Go.Proofs.Ytcggfjpnfodbaaa.M
set_option linter.unusedVariables false
set_option linter.unusedSimpArgs false
open Go.RowKit Go.Proofs.YtcggfjpnfodbaaaW.PrintWords Go.Proofs.YtcggfjpnfodbaaaW.PrintLast Go.Proofs.YtcggfjpnfodbaaaW.PrintMore Go.Proofs.Ytcggfjpnfodbaaa.A
theorem tab_snoc (i : Nat) (f : Nat → Nat) : tab i f ++ [f i] = tab (i + 1) f := by unfold tab; rw [List.range_succ]; simp
theorem spec_then {p q : List Nat} (hp : ∀ i, i < p.length → g p i < q.length) (h : p.length ≤ 1000) : Ev (fun k => spec_l02Then.f k (I p) (I q)) (I (thn p q)) := by
  unfold spec_l02Then.f
  have H : ∀ d i : Nat, i + d = p.length → Ev (fun k => spec_l02Then.l0 k (I q) (I (tab i (fun i => g q (g p i)))) (I p) (p.length : Int) (i : Int)) (I (thn p q)) := by
    intro d
    induction d with
    | zero =>
      intro i h
      obtain rfl : i = p.length := by omega
      refine ev_succ ?_
      have h1 : ¬ ((p.length : Int) < (p.length : Int)) := by omega
      simp only [spec_l02Then.l0, h1, if_false]
      exact Ev.now _
    | succ d ih =>
      intro i h
      have hi : i < p.length := by omega
      have hg := hp i hi
      refine ev_succ ?_
      have h1 : (i : Int) < (p.length : Int) := by omega
      have h2 := w64s i (by omega)
      have h3 : (I (tab i (fun i => g q (g p i)))).length < 17592186044416 := by rw [I_len, tab_len]; omega
      have h4 : (0 : Int) ≤ (i : Int) := by omega
      have h5 : (0 : Int) ≤ ((g p i : Nat) : Int) := by omega
      have h6 : ((g p i : Nat) : Int) < (q.length : Int) := by omega
      have e := tab_snoc i (fun i => g q (g p i))
      simp only [spec_l02Then.l0, h1, h2, h3, h4, h5, h6, rdI, I_len', if_true, I_snoc, e]
      exact ih (i + 1) (by omega)
  have := H p.length 0 (by omega)
  simp only [I_len']
  exact this
def wk (r u : List Nat) (w : ByteArray) : Nat → Nat → Nat
  | 0, x => x
  | j + 1, x => if bt w (j : Int) = 114 then g r (wk r u w j x) else g u (wk r u w j x)
end Go.Proofs.Ytcggfjpnfodbaaa.M
end
section
/- Words of letters: the program and the reference act alike. No conditions. -/
namespace Go.Proofs.Ytcggfjpnfodbaaa.M
set_option linter.unusedVariables false
set_option linter.unusedSimpArgs false
open Go.RowKit Go.Proofs.YtcggfjpnfodbaaaW.PrintWords Go.Proofs.YtcggfjpnfodbaaaW.PrintLast Go.Proofs.YtcggfjpnfodbaaaW.PrintMore Go.Proofs.Ytcggfjpnfodbaaa.A
def lt (c : Int) (s : List Nat × List Nat) : List Nat × List Nat := if c = 84 then (s.1, thn (inv s.1) s.2) else if c = 116 then (s.1, thn s.1 s.2) else if c = 83 then (inv s.2, s.1) else (s.2, inv s.1)
theorem sf_lt {s : List Nat × List Nat} (hs : Sf s.1 s.2) (c : Int) : Sf (lt c s).1 (lt c s).2 ∧ (lt c s).1.length = s.1.length := by
  unfold lt
  split
  · exact ⟨sf_T hs, rfl⟩
  · split
    · exact ⟨sf_t hs, rfl⟩
    · split
      · exact ⟨sf_S hs, by show (inv s.2).length = _; rw [inv_len, hs.eq]⟩
      · exact ⟨sf_s hs, hs.eq⟩
theorem thn_small {r u : List Nat} (hs : Sf r u) : (∀ i, i < (inv r).length → g (inv r) i < u.length) ∧ (∀ i, i < r.length → g r i < u.length) := by
  constructor
  · intro i hi
    have := g_lt (isP_inv hs.pr) hi
    rw [inv_len] at this
    rw [hs.eq]
    exact this
  · intro i hi
    rw [hs.eq]
    exact g_lt hs.pr hi
theorem spec_letter {s : List Nat × List Nat} (hs : Sf s.1 s.2) (c : Int) : Ev (fun k => spec_l05Letter.f k (I s.1) (I s.2) c) (I (lt c s).1, I (lt c s).2) := by
  have hle := hs.le
  have heq := hs.eq
  have c1 : ([] : List Int).length + (I s.1).length < 17592186044416 := by rw [I_len]; simp; omega
  have c2 : ([] : List Int).length + (I s.2).length < 17592186044416 := by rw [I_len]; simp; omega
  obtain ⟨t1, t2⟩ := thn_small hs
  unfold spec_l05Letter.f lt
  by_cases h1 : c = 84
  · simp only [h1, if_true]
    refine Ev.bind (a := (I s.1, I (thn (inv s.1) s.2))) ?_ (Ev.now _)
    unfold spec_l05Shear.f
    simp only [Option.bind_some, c1, if_true, List.nil_append]
    exact Ev.bind (spec_inv hs.pr hs.le) (Ev.bind (spec_then t1 (by rw [inv_len]; omega)) (Ev.now _))
  · by_cases h2 : c = 116
    · have n1 : ¬ ((116 : Int) = 84) := by omega
      simp only [h2, n1, if_true, if_false]
      refine Ev.bind (a := (I s.1, I (thn s.1 s.2))) ?_ (Ev.now _)
      unfold spec_l05Unshear.f
      simp only [Option.bind_some, c1, if_true, List.nil_append]
      exact Ev.bind (spec_then t2 (by omega)) (Ev.now _)
    · by_cases h3 : c = 83
      · have n1 : ¬ ((83 : Int) = 84) := by omega
        have n2 : ¬ ((83 : Int) = 116) := by omega
        simp only [h3, n1, n2, if_true, if_false]
        refine Ev.bind (a := (I (inv s.2), I s.1)) ?_ (Ev.now _)
        unfold spec_l05Turn.f
        refine Ev.bind (spec_inv hs.pu (by omega)) ?_
        simp only [Option.bind_some, c1, if_true, List.nil_append]
        exact Ev.now _
      · simp only [h1, h2, h3, if_false]
        refine Ev.bind (a := (I s.2, I (inv s.1))) ?_ (Ev.now _)
        unfold spec_l05Unturn.f
        simp only [Option.bind_some, c2, if_true, List.nil_append]
        exact Ev.bind (spec_inv hs.pr hs.le) (Ev.now _)
def letB (c : Int) : Bool := decide (c = 84 ∨ c = 116 ∨ c = 83 ∨ c = 115)
theorem copy_ev (l : List Int) (h : l.length ≤ 1000000) : impl_copyInts.f l = some l := by
  unfold impl_copyInts.f
  have c1 : ([] : List Int).length + l.length < 17592186044416 := by simp; omega
  simp only [Option.bind_some, c1, if_true, List.nil_append]
theorem impl_letter {s : List Nat × List Nat} (hs : Sf s.1 s.2) (c : Int) (hc : letB c = true) : Ev (fun k => impl_letterSurface.f k (I s.1) (I s.2) c) (I (lt c s).1, I (lt c s).2) := by
  have hle := hs.le
  have heq := hs.eq
  have h0 := surfB_I.mpr hs
  have k1 := copy_ev (I s.1) (by rw [I_len]; omega)
  have k2 := copy_ev (I s.2) (by rw [I_len]; omega)
  have hc := of_decide_eq_true hc
  unfold impl_letterSurface.f lt
  by_cases h1 : c = 84
  · simp only [h1, if_true]
    refine Ev.bind (a := (I s.1, I (thn (inv s.1) s.2), true)) ?_ (Ev.now _)
    unfold impl_ShearSurface.f
    refine Ev.bind (impl_surf _ _) ?_
    simp only [h0, k1, if_true, Option.bind_some]
    exact Ev.bind (impl_inv hs.pr hs.le) (Ev.bind (impl_then (isP_inv hs.pr) hs.pu (by rw [inv_len, hs.eq]) (by rw [inv_len]; exact hs.le)) (Ev.now _))
  · by_cases h2 : c = 116
    · have n1 : ¬ ((116 : Int) = 84) := by omega
      simp only [h2, n1, if_true, if_false]
      refine Ev.bind (a := (I s.1, I (thn s.1 s.2), true)) ?_ (Ev.now _)
      unfold impl_UnshearSurface.f
      refine Ev.bind (impl_surf _ _) ?_
      simp only [h0, k1, if_true, Option.bind_some]
      exact Ev.bind (impl_then hs.pr hs.pu hs.eq.symm hs.le) (Ev.now _)
    · by_cases h3 : c = 83
      · have n1 : ¬ ((83 : Int) = 84) := by omega
        have n2 : ¬ ((83 : Int) = 116) := by omega
        simp only [h3, n1, n2, if_true, if_false]
        refine Ev.bind (a := (I (inv s.2), I s.1, true)) ?_ (Ev.now _)
        unfold impl_TurnSurface.f
        refine Ev.bind (impl_surf _ _) ?_
        simp only [h0, if_true]
        refine Ev.bind (impl_inv hs.pu (by omega)) ?_
        simp only [k1, Option.bind_some]
        exact Ev.now _
      · have h4 : c = 115 := by omega
        have n1 : ¬ ((115 : Int) = 84) := by omega
        have n2 : ¬ ((115 : Int) = 116) := by omega
        have n3 : ¬ ((115 : Int) = 83) := by omega
        simp only [h4, n1, n2, n3, if_true, if_false]
        refine Ev.bind (a := (I s.2, I (inv s.1), true)) ?_ (Ev.now _)
        unfold impl_UnturnSurface.f
        refine Ev.bind (impl_surf _ _) ?_
        simp only [h0, k2, if_true, Option.bind_some]
        exact Ev.bind (impl_inv hs.pr hs.le) (Ev.now _)
end Go.Proofs.Ytcggfjpnfodbaaa.M
end
section
/- Surfaces that are alike; surfaces that a word keeps. No conditions. -/
namespace Go.Proofs.Ytcggfjpnfodbaaa.M
set_option linter.unusedVariables false
set_option linter.unusedSimpArgs false
open Go.RowKit Go.Proofs.YtcggfjpnfodbaaaW.PrintWords Go.Proofs.YtcggfjpnfodbaaaW.PrintLast Go.Proofs.YtcggfjpnfodbaaaW.PrintMore Go.Proofs.Ytcggfjpnfodbaaa.A
theorem impl_same (a b : List Nat × List Nat) (h1 : a.1.length ≤ 1000000) (h2 : a.2.length ≤ 1000000) : Ev (fun k => impl_SameSurface.f k (I a.1) (I a.2) (I b.1) (I b.2)) (decide (a = b)) := by
  unfold impl_SameSurface.f
  refine Ev.bind (equal_ev a.1 b.1 (by omega)) ?_
  by_cases h : a.1 = b.1
  · have e : decide (a = b) = decide (a.2 = b.2) := by
      rw [decide_eq_decide, Prod.ext_iff]
      simp [h]
    rw [e]
    simp only [h, decide_true, if_true]
    exact Ev.bind (equal_ev a.2 b.2 (by omega)) (Ev.now _)
  · have e : decide (a = b) = false := by
      rw [decide_eq_false_iff_not]
      intro e
      exact h (by rw [e])
    rw [e]
    simp only [h, decide_false, Bool.false_eq_true, if_false]
    exact Ev.now _
theorem spec_same (a b : List Nat × List Nat) (h1 : a.1.length ≤ 1000000) (h2 : a.2.length ≤ 1000000) : Ev (fun k => spec_SameSurface.f k (I a.1) (I a.2) (I b.1) (I b.2)) (decide (a = b)) := by
  unfold spec_SameSurface.f
  refine Ev.bind (sameList_nat a.1 b.1 (by omega)) ?_
  by_cases h : a.1 = b.1
  · have e : decide (a = b) = decide (a.2 = b.2) := by
      rw [decide_eq_decide, Prod.ext_iff]
      simp [h]
    rw [e]
    simp only [h, decide_true, if_true]
    exact Ev.bind (sameList_nat a.2 b.2 (by omega)) (Ev.now _)
  · have e : decide (a = b) = false := by
      rw [decide_eq_false_iff_not]
      intro e
      exact h (by rw [e])
    rw [e]
    simp only [h, decide_false, Bool.false_eq_true, if_false]
    exact Ev.now _
end Go.Proofs.Ytcggfjpnfodbaaa.M
end
section
/- The orbit in plain words: the program and the reference run alike. No conditions. -/
namespace Go.Proofs.Ytcggfjpnfodbaaa.M
set_option linter.unusedVariables false
set_option linter.unusedSimpArgs false
open Go.RowKit Go.Proofs.YtcggfjpnfodbaaaW.PrintWords Go.Proofs.YtcggfjpnfodbaaaW.PrintLast Go.Proofs.YtcggfjpnfodbaaaW.PrintMore Go.Proofs.Ytcggfjpnfodbaaa.A
def oS (p : List Nat × List Nat) : S25 := ⟨I p.1, I p.2⟩
def nxt (c : Int) (s : List Nat × List Nat) : List Nat × List Nat := canS (lt c s).1 (lt c s).2
theorem sf_nxt {s : List Nat × List Nat} (hs : Sf s.1 s.2) (c : Int) : Sf (nxt c s).1 (nxt c s).2 := sf_canS (s := lt c s) (sf_lt hs c).1
structure PO where
  L : List (List Nat × List Nat)
  W : List ByteArray
  F : List Int
  B : List Int
  T : List Int
  S : List Int
def PO.orb (s : PO) : Orb := ⟨s.L.map oS, s.W, s.F, s.B, s.T, s.S⟩
def fi (L : List (List Nat × List Nat)) (x : List Nat × List Nat) : Int := if x ∈ L then ((L.idxOf x : Nat) : Int) else -1
def atL (L : List (List Nat × List Nat)) (i : Nat) : List Nat × List Nat := L.getD i ([], [])
def atW (W : List ByteArray) (i : Nat) : ByteArray := rdOf ByteArray.empty W (i : Int)
def stepP (i : Nat) (c : Int) (s : PO) : Option PO :=
  if nxt c (atL s.L i) ∈ s.L then some { s with T := if c = 84 then s.T ++ [((s.L.idxOf (nxt c (atL s.L i)) : Nat) : Int)] else s.T, S := if c = 84 then s.S else s.S ++ [((s.L.idxOf (nxt c (atL s.L i)) : Nat) : Int)] }
  else if s.L.length = 120 then none
  else some ⟨s.L ++ [nxt c (atL s.L i)], s.W ++ [atW s.W i ++ strOfNums [c]], s.F ++ [(i : Int)], s.B ++ [c], if c = 84 then s.T ++ [(s.L.length : Int)] else s.T, if c = 84 then s.S else s.S ++ [(s.L.length : Int)]⟩
def roundP (i : Nat) (s : PO) : Option PO := (stepP i 84 s).bind (stepP i 83)
def lpP : Nat → PO → Nat → Option PO
  | 0, s, _ => some s
  | f + 1, s, i => if i < s.L.length then (roundP i s).bind (fun s' => lpP f s' (i + 1)) else some s
structure Good (s : PO) : Prop where
  sf : ∀ x ∈ s.L, Sf x.1 x.2
  lw : s.W.length = s.L.length
  lf : s.F.length = s.L.length
  lb : s.B.length = s.L.length
  ws : ∀ j, j < s.L.length → (atW s.W j).size ≤ j
  lt : s.T.length ≤ 200
  ls : s.S.length ≤ 200
theorem atL_get {L : List (List Nat × List Nat)} {i : Nat} (h : i < L.length) : atL L i = L[i] := by simp [atL, List.getD_eq_getElem?_getD, h]
theorem atL_mem {L : List (List Nat × List Nat)} {i : Nat} (h : i < L.length) : atL L i ∈ L := by rw [atL_get h]; exact List.getElem_mem h
theorem rd_oS {L : List (List Nat × List Nat)} {i : Nat} (h : i < L.length) : rd_T25 (L.map oS) (i : Int) = oS (atL L i) := by
  unfold rd_T25
  rw [atL_get h]
  simp [List.getD_eq_getElem?_getD, h]
theorem str1 (c : Int) : (strOfNums [c]).size = 1 := by simp [strOfNums, ByteArray.size]
theorem oidx_ev {L : List (List Nat × List Nat)} (hL : ∀ x ∈ L, Sf x.1 x.2) (hl : L.length ≤ 1000) (x : List Nat × List Nat) : Ev (fun k => indexO k (L.map oS) (I x.1) (I x.2)) (fi L x) := by
  unfold indexO
  have c1 : (L.map oS).length < 4611686018427387904 := by rw [List.length_map]; omega
  simp only [c1, if_true]
  have H : ∀ (M : List (List Nat × List Nat)) (i : Nat), (∀ x ∈ M, Sf x.1 x.2) → Ev (fun k => idxS k (I x.1) (I x.2) (M.map oS) i) (if x ∈ M then ((i + M.idxOf x : Nat) : Int) else -1) := by
    intro M
    induction M with
    | nil => intro i _; exact Ev.now _
    | cons y M ih =>
      intro i hM
      have hy := hM y (by simp)
      have ly := hy.le
      have ly2 := hy.eq
      rw [List.map_cons]
      simp only [idxS]
      refine Ev.bind (impl_same y x (by omega) (by omega)) ?_
      by_cases e : y = x
      · subst e
        simp only [decide_true, if_true, List.mem_cons, true_or, List.idxOf_cons_self, Nat.add_zero]
        exact Ev.now _
      · have hb : (y == x) = false := beq_eq_false_iff_ne.mpr e
        simp only [e, decide_false, Bool.false_eq_true, if_false]
        have key := ih (i + 1) (fun z hz => hM z (by simp [hz]))
        have e1 : (if x ∈ y :: M then ((i + (y :: M).idxOf x : Nat) : Int) else -1) = (if x ∈ M then ((i + 1 + M.idxOf x : Nat) : Int) else -1) := by
          have e2 : x ∈ y :: M ↔ x ∈ M := by simp [Ne.symm e]
          rw [List.idxOf_cons, hb]
          by_cases hm : x ∈ M
          · rw [if_pos (e2.mpr hm), if_pos hm]
            simp only [cond_false]
            congr 1
            omega
          · rw [if_neg (fun h => hm (e2.mp h)), if_neg hm]
        rw [e1]
        exact key
  have key := H L 0 hL
  unfold fi
  simp only [Nat.zero_add] at key
  exact key
theorem ofind_ev {L : List (List Nat × List Nat)} (hL : ∀ x ∈ L, Sf x.1 x.2) (hl : L.length ≤ 1000) (x : List Nat × List Nat) : Ev (fun k => spec_l06Find.f k (L.map oS) (I x.1) (I x.2)) (fi L x) := by
  unfold spec_l06Find.f
  have H : ∀ d i : Nat, i + d = L.length → (∀ j, j < i → atL L j ≠ x) → Ev (fun k => spec_l06Find.l0 k (L.map oS) (L.length : Int) (i : Int) (I x.1) (I x.2)) (fi L x) := by
    intro d
    induction d with
    | zero =>
      intro i hi hn
      obtain rfl : i = L.length := by omega
      have e : fi L x = -1 := by
        unfold fi
        rw [if_neg]
        intro hm
        obtain ⟨j, hj, e⟩ := List.mem_iff_getElem.mp hm
        exact hn j hj (by rw [atL_get hj, e])
      refine ev_succ ?_
      have c1 : ¬ ((L.length : Int) < (L.length : Int)) := by omega
      simp only [spec_l06Find.l0, c1, if_false, e]
      exact Ev.now _
    | succ d ih =>
      intro i hi hn
      have hil : i < L.length := by omega
      have hy := hL _ (atL_mem hil)
      have ly := hy.le
      have ly2 := hy.eq
      have c1 : (i : Int) < (L.length : Int) := by omega
      have c2 : (0 : Int) ≤ (i : Int) := by omega
      have c3 := w64s i (by omega)
      refine ev_succ ?_
      simp only [spec_l06Find.l0, c1, c2, c3, List.length_map, rd_oS hil, if_true]
      refine Ev.bind (spec_same (atL L i) x (by omega) (by omega)) ?_
      by_cases e : atL L i = x
      · have ef : fi L x = (i : Int) := by
          unfold fi
          have hm : x ∈ L := by rw [← e]; exact atL_mem hil
          rw [if_pos hm]
          congr 1
          have h1 : L.idxOf x ≤ i := by
            apply Classical.byContradiction
            intro hlt
            have := List.not_of_lt_findIdx (xs := L) (p := (· == x)) (i := i) (by unfold List.idxOf at hlt; omega)
            rw [← atL_get hil, e] at this
            simp at this
          have h2 : ¬ L.idxOf x < i := by
            intro hlt
            have hlt2 : L.idxOf x < L.length := List.idxOf_lt_length_of_mem hm
            refine hn _ hlt ?_
            rw [atL_get hlt2]
            exact List.getElem_idxOf hlt2
          omega
        rw [ef]
        simp only [e, decide_true, if_true]
        exact Ev.now _
      · simp only [e, decide_false, Bool.false_eq_true, if_false]
        exact ih (i + 1) (by omega) (fun j hj => by
          by_cases ej : j = i
          · rw [ej]; exact e
          · exact hn j (by omega))
  have key := H L.length 0 (Nat.zero_add _) (fun j hj => by omega)
  rw [List.length_map]
  exact key
theorem fi_neg {L : List (List Nat × List Nat)} {x : List Nat × List Nat} : fi L x < 0 ↔ x ∉ L := by
  unfold fi
  by_cases h : x ∈ L
  · rw [if_pos h]; constructor
    · intro h2; omega
    · intro h2; exact absurd h h2
  · rw [if_neg h]; simp [h]
theorem let_ok {c : Int} (hc : c = 84 ∨ c = 83) : letB c = true := by
  rcases hc with rfl | rfl <;> rfl
theorem stpO_ev {s : PO} (hg : Good s) {i : Nat} (hi : i < s.L.length) (hl : s.L.length ≤ 120) {c : Int} (hc : c = 84 ∨ c = 83) : Ev (fun k => stpO k (i : Int) c s.orb) ((stepP i c s).map PO.orb) := by
  have hs := hg.sf _ (atL_mem hi)
  have h1 := impl_letter hs c (let_ok hc)
  have h2 := impl_canon (sf_lt hs c).1
  have h3 := oidx_ev hg.sf (by omega) (nxt c (atL s.L i))
  have c1 : (0 : Int) ≤ (i : Int) := by omega
  have c2 : (i : Int) < (s.orb.L.length : Int) := by show (i : Int) < ((s.L.map oS).length : Int); rw [List.length_map]; omega
  unfold stpO
  simp only [c1, c2, if_true]
  have e1 : rd_T25 s.orb.L (i : Int) = oS (atL s.L i) := rd_oS hi
  rw [e1]
  refine Ev.bind h1 (Ev.bind h2 (Ev.bind h3 ?_))
  have el : s.orb.L.length = s.L.length := List.length_map _
  have lw := hg.lw
  have lf := hg.lf
  have lb := hg.lb
  have lt' := hg.lt
  have ls := hg.ls
  by_cases hm : nxt c (atL s.L i) ∈ s.L
  · have hn : ¬ fi s.L (nxt c (atL s.L i)) < 0 := fun h => fi_neg.mp h hm
    have e2 : fi s.L (nxt c (atL s.L i)) = ((s.L.idxOf (nxt c (atL s.L i)) : Nat) : Int) := if_pos hm
    have c5 : s.orb.T.length < 1000000 ∧ s.orb.S.length < 1000000 := ⟨by show s.T.length < _; omega, by show s.S.length < _; omega⟩
    have e3 : stepP i c s = some { s with T := if c = 84 then s.T ++ [((s.L.idxOf (nxt c (atL s.L i)) : Nat) : Int)] else s.T, S := if c = 84 then s.S else s.S ++ [((s.L.idxOf (nxt c (atL s.L i)) : Nat) : Int)] } := if_pos hm
    rw [e3, e2]
    rw [e2] at hn
    rw [if_neg hn, if_pos c5]
    exact Ev.now _
  · have hn : fi s.L (nxt c (atL s.L i)) < 0 := fi_neg.mpr hm
    simp only [hn, if_true]
    by_cases h120 : s.L.length = 120
    · have e3 : stepP i c s = none := by unfold stepP; rw [if_neg hm, if_pos h120]
      have c6 : (s.orb.L.length : Int) = 120 := by rw [el]; omega
      rw [e3, if_pos c6]
      exact Ev.now _
    · have c6 : ¬ (s.orb.L.length : Int) = 120 := by rw [el]; omega
      have c7 : s.orb.L.length < 1000000 ∧ s.orb.W.length < 1000000 ∧ s.orb.F.length < 1000000 ∧ s.orb.B.length < 1000000 ∧ s.orb.T.length < 1000000 ∧ s.orb.S.length < 1000000 := ⟨by rw [el]; omega, by show s.W.length < _; omega, by show s.F.length < _; omega, by show s.B.length < _; omega, by show s.T.length < _; omega, by show s.S.length < _; omega⟩
      have c8 : (i : Int) < (s.orb.W.length : Int) := by show (i : Int) < (s.W.length : Int); omega
      have c9 : (rdOf ByteArray.empty s.orb.W (i : Int)).size + 1 ≤ 9223372036854775807 := by have := hg.ws i hi; show (atW s.W i).size + 1 ≤ _; omega
      have e3 : stepP i c s = some ⟨s.L ++ [nxt c (atL s.L i)], s.W ++ [atW s.W i ++ strOfNums [c]], s.F ++ [(i : Int)], s.B ++ [c], if c = 84 then s.T ++ [(s.L.length : Int)] else s.T, if c = 84 then s.S else s.S ++ [(s.L.length : Int)]⟩ := by unfold stepP; rw [if_neg hm, if_neg h120]
      rw [e3, if_neg c6, if_pos c7, if_pos c8, if_pos c9]
      have e4 : s.orb.L ++ [(⟨I (canS (lt c (atL s.L i)).1 (lt c (atL s.L i)).2).1, I (canS (lt c (atL s.L i)).1 (lt c (atL s.L i)).2).2⟩ : S25)] = (s.L ++ [nxt c (atL s.L i)]).map oS := by rw [List.map_append]; rfl
      refine Ev.of (k := 0) (fun k => LeO.refl _) ?_
      show some (some (Orb.mk _ _ _ _ _ _)) = some (some (Orb.mk _ _ _ _ _ _))
      rw [e4, el]
      rfl
theorem atW_app {W : List ByteArray} {j : Nat} (h : j < W.length) (x : ByteArray) : atW (W ++ [x]) j = atW W j := by
  unfold atW rdOf
  rw [Int.toNat_natCast, List.getD_eq_getElem?_getD, List.getD_eq_getElem?_getD, List.getElem?_append_left h]
theorem atW_last (W : List ByteArray) (x : ByteArray) : atW (W ++ [x]) W.length = x := by
  unfold atW rdOf
  rw [Int.toNat_natCast, List.getD_eq_getElem?_getD, List.getElem?_append_right (Nat.le_refl _)]
  simp
theorem step_good {s s' : PO} (hg : Good s) {i : Nat} (hi : i < s.L.length) {c : Int} (hT : s.T.length < 200) (hS : s.S.length < 200) (h : stepP i c s = some s') : Good s' ∧ i < s'.L.length ∧ s'.T.length ≤ s.T.length + 1 ∧ s'.S.length ≤ s.S.length + 1 ∧ (s.L.length ≤ 120 → s'.L.length ≤ 120) := by
  have hs := hg.sf _ (atL_mem hi)
  unfold stepP at h
  by_cases hm : nxt c (atL s.L i) ∈ s.L
  · rw [if_pos hm] at h
    have h := Option.some.inj h
    subst h
    have q1 : (if c = 84 then s.T ++ [((s.L.idxOf (nxt c (atL s.L i)) : Nat) : Int)] else s.T).length ≤ s.T.length + 1 := by split <;> simp
    have q2 : (if c = 84 then s.S else s.S ++ [((s.L.idxOf (nxt c (atL s.L i)) : Nat) : Int)]).length ≤ s.S.length + 1 := by split <;> simp
    exact ⟨⟨hg.sf, hg.lw, hg.lf, hg.lb, hg.ws, by show (if c = 84 then _ else _ : List Int).length ≤ 200; omega, by show (if c = 84 then _ else _ : List Int).length ≤ 200; omega⟩, hi, q1, q2, fun h => h⟩
  · rw [if_neg hm] at h
    by_cases h120 : s.L.length = 120
    · rw [if_pos h120] at h; cases h
    · rw [if_neg h120] at h
      have h := Option.some.inj h
      subst h
      have q1 : (if c = 84 then s.T ++ [(s.L.length : Int)] else s.T).length ≤ s.T.length + 1 := by split <;> simp
      have q2 : (if c = 84 then s.S else s.S ++ [(s.L.length : Int)]).length ≤ s.S.length + 1 := by split <;> simp
      refine ⟨⟨fun x hx => ?_, by simp [hg.lw], by simp [hg.lf], by simp [hg.lb], fun j hj => ?_, by show (if c = 84 then _ else _ : List Int).length ≤ 200; omega, by show (if c = 84 then _ else _ : List Int).length ≤ 200; omega⟩, by simp; omega, q1, q2, fun h => by simp; omega⟩
      · rcases List.mem_append.mp hx with hx | hx
        · exact hg.sf x hx
        · obtain rfl : x = nxt c (atL s.L i) := by simpa using hx
          exact sf_nxt hs c
      · have hj : j < s.L.length + 1 := by simpa using hj
        show (atW (s.W ++ [atW s.W i ++ strOfNums [c]]) j).size ≤ j
        by_cases e : j = s.L.length
        · rw [e, ← hg.lw, atW_last, ByteArray.size_append, str1, hg.lw]
          have := hg.ws i hi
          omega
        · rw [atW_app (by rw [hg.lw]; omega)]
          exact hg.ws j (by omega)
def stepU (i : Nat) (c : Int) (L : List (List Nat × List Nat)) (W : List ByteArray) : List (List Nat × List Nat) × List ByteArray := if nxt c (atL L i) ∈ L then (L, W) else (L ++ [nxt c (atL L i)], W ++ [atW W i ++ strOfNums [c]])
theorem stepU_of {s s' : PO} {i : Nat} {c : Int} (h : stepP i c s = some s') : stepU i c s.L s.W = (s'.L, s'.W) := by
  unfold stepP at h
  unfold stepU
  by_cases hm : nxt c (atL s.L i) ∈ s.L
  · rw [if_pos hm] at h ⊢
    have h := Option.some.inj h
    subst h
    rfl
  · rw [if_neg hm] at h ⊢
    by_cases h120 : s.L.length = 120
    · rw [if_pos h120] at h; cases h
    · rw [if_neg h120] at h
      have h := Option.some.inj h
      subst h
      rfl
theorem stepU_none {s : PO} {i : Nat} {c : Int} (h : stepP i c s = none) : (stepU i c s.L s.W).1.length = 121 := by
  unfold stepP at h
  unfold stepU
  by_cases hm : nxt c (atL s.L i) ∈ s.L
  · rw [if_pos hm] at h; cases h
  · rw [if_neg hm] at h ⊢
    by_cases h120 : s.L.length = 120
    · simp [h120]
    · rw [if_neg h120] at h; cases h
structure GoodU (L : List (List Nat × List Nat)) (W : List ByteArray) : Prop where
  sf : ∀ x ∈ L, Sf x.1 x.2
  lw : W.length = L.length
  ws : ∀ j, j < L.length → (atW W j).size ≤ j
theorem Good.u {s : PO} (h : Good s) : GoodU s.L s.W := ⟨h.sf, h.lw, h.ws⟩
theorem stepU_good {L : List (List Nat × List Nat)} {W : List ByteArray} (hg : GoodU L W) {i : Nat} (hi : i < L.length) (c : Int) : GoodU (stepU i c L W).1 (stepU i c L W).2 ∧ L.length ≤ (stepU i c L W).1.length ∧ (stepU i c L W).1.length ≤ L.length + 1 := by
  have hs := hg.sf _ (atL_mem hi)
  unfold stepU
  by_cases hm : nxt c (atL L i) ∈ L
  · rw [if_pos hm]; exact ⟨hg, Nat.le_refl _, by simp⟩
  · rw [if_neg hm]
    refine ⟨⟨fun x hx => ?_, by simp [hg.lw], fun j hj => ?_⟩, by simp, by simp⟩
    · rcases List.mem_append.mp hx with hx | hx
      · exact hg.sf x hx
      · obtain rfl : x = nxt c (atL L i) := by simpa using hx
        exact sf_nxt hs c
    · have hj : j < L.length + 1 := by simpa using hj
      show (atW (W ++ [atW W i ++ strOfNums [c]]) j).size ≤ j
      by_cases e : j = L.length
      · rw [e, ← hg.lw, atW_last, ByteArray.size_append, str1, hg.lw]
        have := hg.ws i hi
        omega
      · rw [atW_app (by rw [hg.lw]; omega)]
        exact hg.ws j (by omega)
theorem specU_ev {L : List (List Nat × List Nat)} {W : List ByteArray} (hg : GoodU L W) {i : Nat} (hi : i < L.length) (hl : L.length ≤ 1000) {j : Nat} {c : Int} (hj : j < 2) (hc : rd [84, 83] (j : Int) = c) (res : List S25 × List ByteArray × Bool)
    (H : Ev (fun k => spec_l06Orbit.l1 k ((stepU i c L W).1.map oS) (stepU i c L W).2 (i : Int) [84, 83] 2 ((j + 1 : Nat) : Int)) res) : Ev (fun k => spec_l06Orbit.l1 k (L.map oS) W (i : Int) [84, 83] 2 (j : Int)) res := by
  have hs := hg.sf _ (atL_mem hi)
  have h1 := spec_letter hs c
  have h2 := spec_canon (sf_lt hs c).1
  have h3 := ofind_ev hg.sf (by omega) (nxt c (atL L i))
  have c1 : (j : Int) < 2 := by omega
  have c2 : (0 : Int) ≤ (j : Int) := by omega
  have c3 := w64s j (by omega)
  have c4 : (j : Int) < (([84, 83] : List Int).length : Int) := by show (j : Int) < ((2 : Nat) : Int); omega
  have c5 : (0 : Int) ≤ (i : Int) := by omega
  have c6 : (i : Int) < ((L.map oS).length : Int) := by rw [List.length_map]; omega
  refine ev_succ ?_
  simp only [spec_l06Orbit.l1, c1, c2, c3, c4, c5, c6, hc, rd_oS hi, if_true, Option.bind_some]
  refine Ev.bind h1 (Ev.bind h2 (Ev.bind h3 ?_))
  unfold stepU at H
  by_cases hm : nxt c (atL L i) ∈ L
  · have hn : ¬ fi L (nxt c (atL L i)) < 0 := fun h => fi_neg.mp h hm
    rw [if_pos hm] at H
    simp only [hn, if_false]
    exact H
  · have hn : fi L (nxt c (atL L i)) < 0 := fi_neg.mpr hm
    rw [if_neg hm] at H
    have c7 : (L.map oS).length < 2932031007402 := by rw [List.length_map]; omega
    have c8 : (i : Int) < (W.length : Int) := by have := hg.lw; omega
    have c9 : (rdOf ByteArray.empty W (i : Int)).size + (strOfNums [c]).size ≤ 9223372036854775807 := by have := hg.ws i hi; rw [str1]; show (atW W i).size + 1 ≤ _; omega
    have c10 : W.length < 8796093022208 := by have := hg.lw; omega
    simp only [hn, c7, c8, c9, c10, if_true]
    have e4 : L.map oS ++ [(⟨I (canS (lt c (atL L i)).1 (lt c (atL L i)).2).1, I (canS (lt c (atL L i)).1 (lt c (atL L i)).2).2⟩ : S25)] = (L ++ [nxt c (atL L i)]).map oS := by rw [List.map_append]; rfl
    rw [e4]
    exact H
def specR : Option PO → List S25 × List ByteArray × Bool
  | none => ([], [], false)
  | some s => (s.L.map oS, s.W, true)
theorem orb_sim : ∀ (f i : Nat) (s : PO), 121 ≤ f + i → Good s → i ≤ s.L.length → s.L.length ≤ 120 → s.T.length ≤ i → s.S.length ≤ i → Ev (fun k => loopO k s.orb (i : Int)) ((lpP f s i).map PO.orb) ∧ Ev (fun k => spec_l06Orbit.l0 k (s.L.map oS) s.W (i : Int)) (specR (lpP f s i)) := by
  intro f
  induction f with
  | zero => intro i s h1 h2 h3 h4; omega
  | succ f ih =>
    intro i s hf hg hi0 hl hT hS
    have el : s.orb.L.length = s.L.length := List.length_map _
    by_cases hi : i < s.L.length
    · have c1 : (i : Int) < (s.orb.L.length : Int) := by rw [el]; omega
      have c2 : (i : Int) < ((s.L.map oS).length : Int) := by rw [List.length_map]; omega
      have c3 := w64s i (by omega)
      have hu := hg.u
      have e1 := stpO_ev hg hi hl (c := 84) (.inl rfl)
      have u1 := stepU_good hu hi 84
      have eL : lpP (f + 1) s i = (roundP i s).bind (fun s' => lpP f s' (i + 1)) := by rw [lpP, if_pos hi]
      have fin : ∀ (L2 : List (List Nat × List Nat)) (W2 : List ByteArray) (res : List S25 × List ByteArray × Bool), stepU i 83 (stepU i 84 s.L s.W).1 (stepU i 84 s.L s.W).2 = (L2, W2) → Ev (fun k => if ((L2.map oS).length : Int) > 120 then (some (([] : List S25), ([] : List ByteArray), false)) else spec_l06Orbit.l0 k (L2.map oS) W2 (wrap64 ((i : Int) + 1))) res → Ev (fun k => spec_l06Orbit.l0 k (s.L.map oS) s.W (i : Int)) res := by
        intro L2 W2 res e H
        refine ev_succ ?_
        simp only [spec_l06Orbit.l0, c2, if_true, Option.bind_some]
        refine specU_ev hu hi (by omega) (j := 0) (c := 84) (by omega) rfl res ?_
        have hi2 : i < (stepU i 84 s.L s.W).1.length := by omega
        refine specU_ev u1.1 hi2 (by omega) (j := 1) (c := 83) (by omega) rfl res ?_
        rw [e]
        refine ev_succ ?_
        have c9 : ¬ ((((1 + 1 : Nat) : Int)) < 2) := by omega
        simp only [spec_l06Orbit.l1, c9, if_false]
        exact H
      have impl0 : ∀ r : Option Orb, Ev (fun k => innerO k (i : Int) [84, 83] s.orb) r → Ev (fun k => match r with | none => some none | some s' => loopO k s' (wrap64 ((i : Int) + 1))) ((lpP (f + 1) s i).map PO.orb) → Ev (fun k => loopO k s.orb (i : Int)) ((lpP (f + 1) s i).map PO.orb) := by
        intro r h1 h2
        refine ev_succ ?_
        simp only [loopO, c1, if_true]
        exact Ev.bind h1 h2
      cases h84 : stepP i 84 s with
      | none =>
        have en : lpP (f + 1) s i = none := by rw [eL]; unfold roundP; rw [h84]; rfl
        have l121 := stepU_none h84
        rw [h84] at e1
        rw [en] at impl0 ⊢
        have u2 := stepU_good u1.1 (i := i) (by omega) 83
        have l2 : (stepU i 83 (stepU i 84 s.L s.W).1 (stepU i 84 s.L s.W).2).1.length > 120 := by omega
        refine ⟨impl0 none ?_ (Ev.now _), ?_⟩
        · unfold innerO
          exact Ev.bind e1 (Ev.now _)
        · revert l2
          generalize ep : stepU i 83 (stepU i 84 s.L s.W).1 (stepU i 84 s.L s.W).2 = p
          intro l2
          refine fin p.1 p.2 _ ep ?_
          have c9 : ((p.1.map oS).length : Int) > 120 := by rw [List.length_map]; omega
          simp only [c9, if_true]
          exact Ev.now _
      | some s1 =>
        obtain ⟨g1, i1, t1, ss1, l1⟩ := step_good hg hi (by omega) (by omega) h84
        have e2 := stpO_ev g1 i1 (l1 hl) (c := 83) (.inr rfl)
        have eu := stepU_of h84
        rw [h84] at e1
        have eR : lpP (f + 1) s i = (stepP i 83 s1).bind (fun s' => lpP f s' (i + 1)) := by rw [eL]; unfold roundP; rw [h84]; rfl
        cases h83 : stepP i 83 s1 with
        | none =>
          have en : lpP (f + 1) s i = none := by rw [eR, h83]; rfl
          have l121 := stepU_none h83
          rw [h83] at e2
          rw [en] at impl0 ⊢
          have l2 : (stepU i 83 (stepU i 84 s.L s.W).1 (stepU i 84 s.L s.W).2).1.length > 120 := by rw [eu, l121]; omega
          refine ⟨impl0 none ?_ (Ev.now _), ?_⟩
          · unfold innerO
            refine Ev.bind e1 ?_
            simp only [innerO]
            exact Ev.bind e2 (Ev.now _)
          · revert l2
            generalize ep : stepU i 83 (stepU i 84 s.L s.W).1 (stepU i 84 s.L s.W).2 = p
            intro l2
            refine fin p.1 p.2 _ ep ?_
            have c9 : ((p.1.map oS).length : Int) > 120 := by rw [List.length_map]; omega
            simp only [c9, if_true]
            exact Ev.now _
        | some s2 =>
          obtain ⟨g2, i2, t2, ss2, l2⟩ := step_good g1 i1 (by omega) (by omega) h83
          have eu2 := stepU_of h83
          rw [h83] at e2
          have es : lpP (f + 1) s i = lpP f s2 (i + 1) := by rw [eR, h83]; rfl
          have hT2 : s2.T.length ≤ i + 1 ∧ s2.S.length ≤ i + 1 := by
            have a1 : s1.S.length = s.S.length := by
              unfold stepP at h84
              split at h84
              · have h := Option.some.inj h84; subst h; rfl
              · split at h84
                · cases h84
                · have h := Option.some.inj h84; subst h; rfl
            have a2 : s2.T.length = s1.T.length := by
              unfold stepP at h83
              split at h83
              · have h := Option.some.inj h83; subst h; rfl
              · split at h83
                · cases h83
                · have h := Option.some.inj h83; subst h; rfl
            omega
          obtain ⟨k1, k2⟩ := ih (i + 1) s2 (by omega) g2 (by omega) (l2 (l1 hl)) hT2.1 hT2.2
          rw [es] at impl0 ⊢
          refine ⟨impl0 (some s2.orb) ?_ ?_, ?_⟩
          · unfold innerO
            refine Ev.bind e1 ?_
            simp only [innerO]
            refine Ev.bind e2 (Ev.now _)
          · simp only [c3]
            exact k1
          · refine fin s2.L s2.W _ (by rw [eu]; exact eu2) ?_
            have c9 : ¬ ((s2.L.map oS).length : Int) > 120 := by rw [List.length_map]; have := l2 (l1 hl); omega
            simp only [c9, if_false, c3]
            exact k2
    · have c1 : ¬ (i : Int) < (s.orb.L.length : Int) := by rw [el]; omega
      have c2 : ¬ (i : Int) < ((s.L.map oS).length : Int) := by rw [List.length_map]; omega
      have eL : lpP (f + 1) s i = some s := by rw [lpP, if_neg hi]
      rw [eL]
      constructor
      · refine ev_succ ?_
        simp only [loopO, c1, if_false]
        exact Ev.now _
      · refine ev_succ ?_
        simp only [spec_l06Orbit.l0, c2, if_false]
        exact Ev.now _
def start0 (a : List Nat × List Nat) : PO := ⟨[canS a.1 a.2], [⟨#[]⟩], [-1], [0], [], []⟩
def orbP (a : List Nat × List Nat) : Option PO := lpP 121 (start0 a) 0
theorem start_good {a : List Nat × List Nat} (ha : Sf a.1 a.2) : Good (start0 a) :=
  ⟨fun x hx => by obtain rfl : x = canS a.1 a.2 := (by simpa [start0] using hx); exact sf_canS ha, rfl, rfl, rfl, fun j hj => by
    have hj : j < 1 := hj
    obtain rfl : j = 0 := by omega
    exact Nat.le_refl _, by simp [start0], by simp [start0]⟩
theorem orb_both {a : List Nat × List Nat} (ha : Sf a.1 a.2) : Ev (fun k => orbitO k (I a.1) (I a.2)) ((orbP a).map PO.orb) ∧ Ev (fun k => spec_l06Orbit.f k (I a.1) (I a.2)) (specR (orbP a)) := by
  obtain ⟨h1, h2⟩ := orb_sim 121 0 (start0 a) (by omega) (start_good ha) (Nat.zero_le _) (by simp [start0]) (by simp [start0]) (by simp [start0])
  constructor
  · unfold orbitO
    refine Ev.bind (impl_canon ha) ?_
    simp only [if_true]
    exact h1
  · unfold spec_l06Orbit.f
    exact Ev.bind (spec_canon ha) h2
theorem orbO_no {r u : List Int} (h : ¬ surfB r u = true) : Ev (fun k => orbitO k r u) none := by
  unfold orbitO
  refine Ev.bind (impl_canon_no h) ?_
  simp only [Bool.false_eq_true, if_false]
  exact Ev.now _
end Go.Proofs.Ytcggfjpnfodbaaa.M
end
section
/- The orbit's size: the program and the reference agree. No conditions. -/
namespace Go.Proofs.Ytcggfjpnfodbaaa.M
set_option linter.unusedSimpArgs false
open Go.RowKit Go.Proofs.YtcggfjpnfodbaaaW.PrintWords Go.Proofs.YtcggfjpnfodbaaaW.PrintLast Go.Proofs.YtcggfjpnfodbaaaW.PrintMore Go.Proofs.Ytcggfjpnfodbaaa.A
def orbR (r u : List Int) : Option PO := if surfB r u = true then orbP (N r, N u) else none
theorem N_I' (l : List Nat) : N (I l) = l := N_I l
theorem orbR_I {a : List Nat × List Nat} (ha : Sf a.1 a.2) : orbR (I a.1) (I a.2) = orbP a := by
  unfold orbR
  rw [if_pos (surfB_I.mpr ha), N_I', N_I']
theorem orbR_ev (r u : List Int) : Ev (fun k => orbitO k r u) ((orbR r u).map PO.orb) := by
  by_cases h : surfB r u = true
  · obtain ⟨r', u', rfl, rfl, hs⟩ := surf_nat h
    rw [orbR_I (a := (r', u')) hs]
    exact (orb_both (a := (r', u')) hs).1
  · have e : orbR r u = none := if_neg h
    rw [e]
    exact orbO_no h
def outL : Option PO → List S25 × Bool
  | none => ([], false)
  | some s => (s.L.map oS, true)
theorem specOrb_ev (r u : List Int) : Ev (fun k => spec_OrbitOf.f k r u) (outL (orbR r u)) := by
  unfold spec_OrbitOf.f
  refine Ev.bind (spec_surf r u) ?_
  by_cases h : surfB r u = true
  · obtain ⟨r', u', rfl, rfl, hs⟩ := surf_nat h
    have k2 := (orb_both (a := (r', u')) hs).2
    rw [orbR_I (a := (r', u')) hs]
    simp only [h, if_true]
    refine Ev.bind k2 ?_
    cases orbP (r', u') with
    | none => exact Ev.now _
    | some s => exact Ev.now _
  · have e : orbR r u = none := if_neg h
    rw [e]
    simp only [h, if_false, Bool.false_eq_true]
    exact Ev.now _
def idxR : Option PO → Int
  | none => -1
  | some s => (s.L.length : Int)
theorem specIdx_ev (r u : List Int) : Ev (fun k => spec_IndexOf.f k r u) (idxR (orbR r u)) := by
  unfold spec_IndexOf.f
  refine Ev.bind (specOrb_ev r u) ?_
  cases orbR r u with
  | none =>
    simp only [outL, Bool.false_eq_true, if_false]
    exact Ev.now _
  | some s =>
    simp only [outL, if_true, List.length_map]
    exact Ev.now _
theorem implIdx_ev (r u : List Int) : Ev (fun k => impl_IndexOf.f k r u) (idxR (orbR r u)) := by
  unfold impl_IndexOf.f
  refine Ev.bind (orbR_ev r u) ?_
  cases orbR r u with
  | none => exact Ev.now _
  | some s =>
    have e : s.orb.L.length = s.L.length := List.length_map _
    simp only [Option.map_some, e]
    exact Ev.now _
end Go.Proofs.Ytcggfjpnfodbaaa.M
end
section
/- The law of full groups answers true. No conditions. -/
namespace Go.Proofs.Ytcggfjpnfodbaaa.Pure
set_option linter.unusedVariables false
set_option linter.unusedSimpArgs false
open Go.RowKit Go.Proofs.YtcggfjpnfodbaaaW.PrintWords Go.Proofs.YtcggfjpnfodbaaaW.PrintLast Go.Proofs.YtcggfjpnfodbaaaW.PrintMore Go.Proofs.Ytcggfjpnfodbaaa.A Go.Proofs.Ytcggfjpnfodbaaa.M
theorem FnExactIsFullGroup (r u : List Int) (hr : r.length ≤ maxLen) (_ : ∀ x ∈ r, (Lit.int .i64 x).wf = true) (hu : u.length ≤ maxLen) (_ : ∀ x ∈ u, (Lit.int .i64 x).wf = true) : ∃ k, laws_FnExactIsFullGroup.F k r u := by
  unfold maxLen at hr hu
  unfold laws_FnExactIsFullGroup.F
  by_cases h2 : r.length + u.length ≤ 1048576
  · obtain ⟨K1, e1⟩ : Ev (fun k => spec_IsFullGroup.f k r u) (idxR (orbR r u) == 1) := by
      unfold spec_IsFullGroup.f
      exact Ev.bind (specIdx_ev r u) (Ev.now _)
    obtain ⟨K2, e2⟩ : Ev (fun k => impl_IsFullGroup.f k r u) (idxR (orbR r u) == 1) := by
      unfold impl_IsFullGroup.f
      exact Ev.bind (implIdx_ev r u) (Ev.now _)
    obtain ⟨K3, e3⟩ := toSurf_ev r u (by omega) (by omega)
    obtain ⟨K4, e4⟩ := eqSurf_same r u (by omega) (by omega)
    exact ⟨K1 + K2 + K3 + K4, _, sz_small h2, .inr ⟨by omega, _, e3 _ (by omega), e4 _ (by omega), e1 _ (by omega), e2 _ (by omega)⟩⟩
  · exact ⟨0, _, sz_big (by omega) (by omega) h2, .inl (by omega)⟩
end Go.Proofs.Ytcggfjpnfodbaaa.Pure
end
