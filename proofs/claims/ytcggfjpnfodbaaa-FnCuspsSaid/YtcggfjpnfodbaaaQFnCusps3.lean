/- Lemmas for the row FnCusps: the program's functions told as plain functions, and plain mathematics. No conditions. -/
import Derived.Ground.SlsfProg
import Derived.Shelf.SlSortCmp.NoneTotal
import Derived.Test.YtcggfjpnfodbaaaProg
import Derived.Test.YtcggfjpnfodbaaaQFnCusps2
section
/- Finding the orbit: the program's walk. No conditions. -/
namespace Go.Proofs.Ytcggfjpnfodbaaa.M
set_option linter.unusedVariables false
set_option linter.unusedSimpArgs false
open Go Go.RowKit Go.Proofs.YtcggfjpnfodbaaaW.PrintWords Go.Proofs.YtcggfjpnfodbaaaW.PrintLast Go.Proofs.YtcggfjpnfodbaaaW.PrintMore Go.Proofs.Ytcggfjpnfodbaaa.A
def OrbPost (w w' : World) (e : Ending) : Option Orb → Prop
 | none => e = .returned (.tuple #[.pointer none, .bool false]) ∧ Below w.heap.size w w'
 | some s => ∃ gO gM n col vL vW vF vB vT vS, e = .returned (.tuple #[.pointer (some ⟨gO, 0, none⟩), .bool true]) ∧ OrbH w.heap.size col w' gO gM n vL vW vF vB vT vS s ∧ Below w.heap.size w w'
set_option maxHeartbeats 8000000 in
set_option maxRecDepth 100000 in
theorem orbit_no (k : Nat) (A0 : Option Addr) (c0 : Nat) (l0 : List Int) (A1 : Option Addr) (c1 : Nat) (l1 : List Int) (y1 y2 : List Int) (w : World) (h0 : Kd.C (Kd.int .i64) w A0 l0.length l0) (g0 : l0.length ≤ c0) (h1 : Kd.C (Kd.int .i64) w A1 l1.length l1) (g1 : l1.length ≤ c1) (h : Z41.f k l0 l1 = some (y1, y2, false)) :
  Calls Try.prog 59 #[.agg #[.slice A0 l0.length c0, .slice A1 l1.length c1]] w fun e w' => OrbPost w w' e none := by
 have hu := Try.underlying25
 have H0 := Aside0.mk h0; have H1 := Aside0.mk h1; have G0 := Aside0.mk g0; have G1 := Aside0.mk g1; have HA := Aside0.mk h
 clear h0 h1 g0 g1 h
 have HB := Aside0.mk (Below.refl w.heap.size w)
 go_enter Try.func59, Try.ntmps59
 go_wp2_with (first | ((with_reducible refine gate_dst (N := 1) rfl ?_); refine bx_ 1 #[.slice A0 l0.length c0, .slice A1 l1.length c1] 25 ?_; intro gs hg w2 hbox hb; have BS := Aside0.mk hbox; replace HB := b1_ hb; clear hb hbox hg; obtain ⟨hcz0, hcz1, hfz0, hfz1⟩ := c2_ BS) | ((with_reducible refine gate_callee (f := 28) rfl ?_); refine gL_ (some 15) Try.func28 #[.agg #[.slice A0 l0.length c0, .slice A1 l1.length c1]] rfl qa_ ?_; (with_reducible refine (Z41.calls k _ _ l0 _ _ l1 y1 y2 false _ (cb_ H0) G0.out (cb_ H1) G1.out HA.out).mono ?_); rintro e w3 ⟨v0, v1, rfl, ho0, ho1, hb⟩; refine ⟨_, rfl, ?_⟩; replace HB := b1_ hb; clear hb; obtain ⟨Ay0, cy0, ey0⟩ := Kd.R_slice ho0; subst ey0; obtain ⟨Ay1, cy1, ey1⟩ := Kd.R_slice ho1; subst ey1; clear ho0 ho1) | ((with_reducible refine gate_dst (N := 4) rfl ?_); refine bx_ 4 #[.slice none 0 0, .slice none 0 0] 25 ?_; intro gf hg w4 hbox hb; have GF := gw_ w hg; have BF := Aside0.mk hbox; replace HB := b1_ hb; clear hb hbox hg; obtain ⟨hcf0, hcf1, hff0, hff1⟩ := c2_ BF))
 go_ret2
 exact ⟨qb_, hB_⟩
section
variable {P : Program} {ops : Array Oper} {rest : List Oper} {o : Oper} {a : Act} {Q : Exit → Act → World → Prop}
theorem lit_event {W : World} (N : Tmp) (cs : Array Value) (e : TypeId) (n : Nat) (h : ∀ g, g = W.heap.size → ∀ w1, w1.heap[g]? = some (.cells cs e (0, 0)) → Below W.heap.size W w1 → wpList P ops Q rest (a.put o.dst (.slice (some ⟨g, 0, none⟩) n n)) w1) (hgd : o.guard = none := by rfl) (hd : o.dst = some N := by rfl)
  (hrun : (execOp a.eval o).run P W = .ok (.value (.slice (some ⟨W.heap.size, 0, none⟩) n n)) (W.alloc (.cells cs e (0, 0))) := by first | (go_simp; done) | (go_simp; rfl)) : wpList P ops Q (o :: rest) a W :=
 Kd.event_run hgd hrun (h _ rfl _ (blk_new W _) (below_alloc (Below.refl _ _) _))
theorem map_event {W : World} (N : Tmp) (h : ∀ g, g = W.heap.size → ∀ w1, w1.heap[g]? = some (.map #[] 0) → Below W.heap.size W w1 → wpList P ops Q rest (a.put o.dst (.map (some g))) w1) (hgd : o.guard = none := by rfl) (hd : o.dst = some N := by rfl)
  (hrun : (execOp a.eval o).run P W = .ok (.value (.map (some W.heap.size))) (W.alloc (.map #[] 0)) := by first | (go_simp; done) | (go_simp; rfl)) : wpList P ops Q (o :: rest) a W :=
 Kd.event_run hgd hrun (h _ rfl _ (blk_new W _) (below_alloc (Below.refl _ _) _))
end
theorem R_blk {α : Type} {enc : α → Value} {h1 : ∀ x : α, (enc x).oneCell' = true} {W : World} {g e base : Nat} {x : α} {ok : Nat → Prop} (hb : W.heap[g]? = some (.cells #[enc x] e (0, 0))) (hg : base ≤ g) (hok : ok g) : (Kd.scalar enc h1).R e W base ok (.slice (some ⟨g, 0, none⟩) 1 1) [x] :=
 ⟨fun k hk => (by simpa [Value.ownBlock] using hk : g = k) ▸ hok, [enc x], ⟨rfl, .inr ⟨g, 1, #[enc x], rfl, hg, hb, Nat.le_refl _, by decide, rfl, rfl⟩⟩, Reps.one rfl (Reps.none _ _)⟩
theorem S_blk {W : World} {g base : Nat} {u0 u1 : Value} {x : S25} {ok : Nat → Prop} (hb : W.heap[g]? = some (.cells #[u0, u1] 25 (0, 0))) (hg : base ≤ g) (hok : ok g) (h0 : Kd.R (Kd.int .i64) 3 W base (fun k => ok k ∧ k ≠ g) u0 x.f0) (h1 : Kd.R (Kd.int .i64) 3 W base (fun k => ok k ∧ k ≠ g) u1 x.f1) (ne : NeRow u0 u1) : Kd.S k25 25 W base ok (.slice (some ⟨g, 0, none⟩) 1 1) [x] := by
 refine ⟨fun _ => 0, fun k hk => by
  have : g = k := by simpa [Value.ownBlock] using hk
  exact this ▸ hok, [u0, u1], ⟨rfl, .inr ⟨g, 1, #[u0, u1], rfl, hg, hb, Nat.le_refl _, by decide, rfl, rfl⟩⟩, Reps.c2 ?_ (Reps.none _ _)⟩
 exact k25_mkM _ _ _ x (Kd.R_mono h0 (fun k hk => ⟨⟨hk.1, by simpa [Value.ownBlock] using hk.2⟩, rfl⟩)) (Kd.R_mono h1 (fun k hk => ⟨⟨hk.1, by simpa [Value.ownBlock] using hk.2⟩, rfl⟩)) ne
def orb_T21 : Bool × List (List Nat × List Nat) := (true, [([], []), ([0], [0]), ([1], [1]), ([2], [2]), ([], []), ([], []), ([5], [5]), ([6], [6]), ([7], [7]), ([], []), ([8, 9], [8, 9]), ([], []), ([11], [11]), ([10, 12], [10, 12]), ([3, 4, 13, 13, 0, 1, 2, 3, 4, 5, 6, 7, 8, 9, 10, 11, 12, 13], [3, 4, 13])])
def orb_B21 : List Nat := [0, 1, 3, 7, 0, 0, 32, 96, 224, 0, 992, 0, 2048, 8160, 16383]
theorem orb_tab21 : rtab .any (opsOf Try.f59 21) = orb_T21 := by kernel_rfl
theorem orb_bits21 : waitsOk orb_T21.2 orb_B21 = true := by kernel_rfl
def orb_T17 : Bool × List (List Nat × List Nat) := (true, [([], []), ([], []), ([1], [1]), ([2], [2]), ([3], [3]), ([], []), ([5], [5]), ([4, 6], [4, 6]), ([0, 0, 1, 2, 3, 4, 5, 6, 7], [0]), ([8, 0, 1, 2, 3, 4, 5, 6, 7], [8]), ([9, 7, 7, 0, 1, 2, 3, 4, 5, 6, 7], [7, 9])])
def orb_B17 : List Nat := [0, 0, 2, 6, 14, 0, 32, 126, 255, 511, 1023]
theorem orb_tab17 : rtab .any (opsOf Try.f59 17) = orb_T17 := by kernel_rfl
theorem orb_bits17 : waitsOk orb_T17.2 orb_B17 = true := by kernel_rfl
def orb_T18 : Bool × List (List Nat × List Nat) := (true, [([], []), ([], []), ([1], [1]), ([2], [2]), ([3], [3]), ([], []), ([5], [5]), ([6], [6]), ([7], [7]), ([], []), ([8, 9], [8, 9]), ([10], [10]), ([], []), ([12], [12]), ([13], [13]), ([11, 14], [11, 14]), ([15], [15]), ([4, 16], [4, 16]), ([0, 0, 1, 2, 3, 4, 5, 6, 7, 8, 9, 10, 11, 12, 13, 14, 15, 16, 17], [0]), ([18, 0, 1, 2, 3, 4, 5, 6, 7, 8, 9, 10, 11, 12, 13, 14, 15, 16, 17], [18]), ([19, 17, 17, 0, 1, 2, 3, 4, 5, 6, 7, 8, 9, 10, 11, 12, 13, 14, 15, 16, 17], [17, 19])])
def orb_B18 : List Nat := [0, 0, 2, 6, 14, 0, 32, 96, 224, 0, 992, 2016, 0, 4096, 12288, 32736, 65504, 131070, 262143, 524287, 1048575]
theorem orb_tab18 : rtab .any (opsOf Try.f59 18) = orb_T18 := by kernel_rfl
theorem orb_bits18 : waitsOk orb_T18.2 orb_B18 = true := by kernel_rfl
set_option maxHeartbeats 8000000 in
set_option maxRecDepth 100000 in
theorem orbit_yes (k : Nat) (A0 : Option Addr) (c0 : Nat) (l0 : List Int) (A1 : Option Addr) (c1 : Nat) (l1 : List Int) (y1 y2 : List Int) (R : Option Orb) (w : World) (h0 : Kd.C (Kd.int .i64) w A0 l0.length l0) (g0 : l0.length ≤ c0) (h1 : Kd.C (Kd.int .i64) w A1 l1.length l1) (g1 : l1.length ≤ c1) (h : Z41.f k l0 l1 = some (y1, y2, true)) (hl : loopO k ⟨[⟨y1, y2⟩], [⟨#[]⟩], [-1], [0], [], []⟩ 0 = some R) :
  Calls Try.prog 59 #[.agg #[.slice A0 l0.length c0, .slice A1 l1.length c1]] w fun e w' => OrbPost w w' e R := by
 have hu := Try.underlying25
 have H0 := Aside0.mk h0; have H1 := Aside0.mk h1; have G0 := Aside0.mk g0; have G1 := Aside0.mk g1; have HA := Aside0.mk h; have HL := Aside0.mk hl
 clear h0 h1 g0 g1 h hl
 have HB := Aside0.mk (Below.refl w.heap.size w)
 go_enter Try.func59, Try.ntmps59
 go_upto_region 4 with (first | ((with_reducible refine gate_dst (N := 1) rfl ?_); refine bx_ 1 #[.slice A0 l0.length c0, .slice A1 l1.length c1] 25 ?_; intro gs hg w2 hbox hb; have BS := Aside0.mk hbox; replace HB := b1_ hb; clear hb hbox hg; obtain ⟨hcz0, hcz1, hfz0, hfz1⟩ := c2_ BS) | ((with_reducible refine gate_callee (f := 28) rfl ?_); refine gL_ (some 15) Try.func28 #[.agg #[.slice A0 l0.length c0, .slice A1 l1.length c1]] rfl qa_ ?_; (with_reducible refine (Z41.calls k _ _ l0 _ _ l1 y1 y2 true _ (cb_ H0) G0.out (cb_ H1) G1.out HA.out).mono ?_); rintro e w3 ⟨v0, v1, rfl, ho0, ho1, hb⟩; refine ⟨_, rfl, ?_⟩; have ZB := Aside0.mk (below_size hB_ : w.heap.size ≤ w2.heap.size); replace HB := b1_ hb; clear hb; obtain ⟨Ay0, cy0, ey0⟩ := Kd.R_slice ho0; subst ey0; obtain ⟨Ay1, cy1, ey1⟩ := Kd.R_slice ho1; subst ey1; have Y0 := Aside0.mk ho0; have Y1 := Aside0.mk ho1; clear ho0 ho1) | ((with_reducible refine gate_dst (N := 4) rfl ?_); refine bx_ 4 #[.slice none 0 0, .slice none 0 0] 25 ?_; intro gf hg w4 hbox hb; have GF := gw_ w hg; have GF2 := Aside0.mk (show w3.heap.size ≤ gf from Nat.le_of_eq hg.symm); have BF := Aside0.mk hbox; have B3 := Aside0.mk hb; replace HB := b1_ hb; clear hb hbox hg; obtain ⟨hcf0, hcf1, hff0, hff1⟩ := c2_ BF))
 obtain ⟨hbox, hkp, hB2⟩ := box_store BF.out (.slice Ay0 y1.length cy0) (.slice Ay1 y2.length cy1) HB.out GF.out
 generalize hw : ((w4.setCell ⟨gf, 0, none⟩ (.slice Ay0 y1.length cy0)).setCell ⟨gf, 1, none⟩ (.slice Ay1 y2.length cy1)) = w5 at hbox hkp hB2 ⊢
 clear hw hcf0 hcf1 hff0 hff1 hcz0 hcz1 hfz0 hfz1 HB
 have NE := Aside0.mk (show NeRow (.slice Ay0 y1.length cy0) (.slice Ay1 y2.length cy1) from fun k_ e1_ e2_ => (Y0.out.1 k_ e1_) e2_.symm)
 replace Y0 := Aside0.mk (Kd.R_kept (Kd.R_below (Kd.R_bound Y0.out) B3.out) hkp (fun k_ hk hs => by have h2 := hk.2.2.1; have h3 := GF2.out; omega))
 replace Y1 := Aside0.mk (Kd.R_kept (Kd.R_below (Kd.R_bound Y1.out) B3.out) hkp (fun k_ hk hs => by have h2 := hk.2.2.1; have h3 := GF2.out; omega))
 have HB := Aside0.mk hB2
 replace BF := Aside0.mk (show w5.heap[gf]? = some (.cells #[.slice Ay0 y1.length cy0, .slice Ay1 y2.length cy1] 25 (0, 0)) from hbox)
 have Z5 := Aside0.mk hkp.1
 have HB5 := HB
 clear hbox hkp hB2
 obtain ⟨hcf0, hcf1, hff0, hff1⟩ := c2_ BF
 replace Y0 := Aside0.mk (Kd.R_bound Y0.out)
 replace Y1 := Aside0.mk (Kd.R_bound Y1.out)
 go_wp2_with (first | ((with_reducible refine gate_dst (N := 21) rfl ?_); refine lit_event 21 #[.slice Ay0 y1.length cy0, .slice Ay1 y2.length cy1] 25 1 ?_; intro g1 hg w6 hbox hb; have Kg1 := Aside0.mk hbox; have Sg1 := Aside0.mk (show w5.heap.size ≤ g1 ∧ g1 < w6.heap.size from ⟨Nat.le_of_eq hg.symm, (Array.getElem?_eq_some_iff.1 hbox).1⟩); replace Y0 := Aside0.mk (Kd.R_below Y0.out hb); replace Y1 := Aside0.mk (Kd.R_below Y1.out hb); replace HB := b1_ hb; clear hb hbox hg) | ((with_reducible refine gate_dst (N := 22) rfl ?_); refine lit_event 22 #[.string ⟨#[]⟩] 9 1 ?_; intro g2 hg w7 hbox hb; have Kg2 := Aside0.mk hbox; have Sg2 := Aside0.mk (show w6.heap.size ≤ g2 ∧ g2 < w7.heap.size from ⟨Nat.le_of_eq hg.symm, (Array.getElem?_eq_some_iff.1 hbox).1⟩); replace Kg1 := bb_ Kg1 hb; replace Y0 := Aside0.mk (Kd.R_below Y0.out hb); replace Y1 := Aside0.mk (Kd.R_below Y1.out hb); replace HB := b1_ hb; clear hb hbox hg) | ((with_reducible refine gate_dst (N := 23) rfl ?_); refine lit_event 23 #[.int .i64 (-1)] 3 1 ?_; intro g3 hg w8 hbox hb; have Kg3 := Aside0.mk hbox; have Sg3 := Aside0.mk (show w7.heap.size ≤ g3 ∧ g3 < w8.heap.size from ⟨Nat.le_of_eq hg.symm, (Array.getElem?_eq_some_iff.1 hbox).1⟩); replace Kg1 := bb_ Kg1 hb; replace Kg2 := bb_ Kg2 hb; replace Y0 := Aside0.mk (Kd.R_below Y0.out hb); replace Y1 := Aside0.mk (Kd.R_below Y1.out hb); replace HB := b1_ hb; clear hb hbox hg) | ((with_reducible refine gate_dst (N := 24) rfl ?_); refine lit_event 24 #[.int .u8 0] 5 1 ?_; intro g4 hg w9 hbox hb; have Kg4 := Aside0.mk hbox; have Sg4 := Aside0.mk (show w8.heap.size ≤ g4 ∧ g4 < w9.heap.size from ⟨Nat.le_of_eq hg.symm, (Array.getElem?_eq_some_iff.1 hbox).1⟩); replace Kg1 := bb_ Kg1 hb; replace Kg2 := bb_ Kg2 hb; replace Kg3 := bb_ Kg3 hb; replace Y0 := Aside0.mk (Kd.R_below Y0.out hb); replace Y1 := Aside0.mk (Kd.R_below Y1.out hb); replace HB := b1_ hb; clear hb hbox hg) | ((with_reducible refine gate_dst (N := 25) rfl ?_); refine map_event 25 ?_; intro gM hg w10 hbox hb; have KgM := Aside0.mk hbox; have SgM := Aside0.mk (show w9.heap.size ≤ gM ∧ gM < w10.heap.size from ⟨Nat.le_of_eq hg.symm, (Array.getElem?_eq_some_iff.1 hbox).1⟩); replace Kg1 := bb_ Kg1 hb; replace Kg2 := bb_ Kg2 hb; replace Kg3 := bb_ Kg3 hb; replace Kg4 := bb_ Kg4 hb; replace Y0 := Aside0.mk (Kd.R_below Y0.out hb); replace Y1 := Aside0.mk (Kd.R_below Y1.out hb); replace HB := b1_ hb; clear hb hbox hg) | ((with_reducible refine gate_dst (N := 27) rfl ?_); refine bx_ 27 #[.slice (some ⟨g1, 0, none⟩) 1 1, .slice (some ⟨g2, 0, none⟩) 1 1, .slice (some ⟨g3, 0, none⟩) 1 1, .slice (some ⟨g4, 0, none⟩) 1 1, .map (some gM)] 69 ?_; intro gO hg w11 hbox hb; have KgO := Aside0.mk hbox; have SgO := Aside0.mk (show w10.heap.size ≤ gO ∧ gO < w11.heap.size from ⟨Nat.le_of_eq hg.symm, (Array.getElem?_eq_some_iff.1 hbox).1⟩); replace Kg1 := bb_ Kg1 hb; replace Kg2 := bb_ Kg2 hb; replace Kg3 := bb_ Kg3 hb; replace Kg4 := bb_ Kg4 hb; replace KgM := bb_ KgM hb; replace Y0 := Aside0.mk (Kd.R_below Y0.out hb); replace Y1 := Aside0.mk (Kd.R_below Y1.out hb); replace HB := b1_ hb; clear hb hbox hg))
 have HH : Aside0 (OrbH w.heap.size (fun k => if k = g2 then 1 else if k = g3 then 2 else if k = g4 then 3 else if k = gO then 6 else if k = gM then 7 else 0) w11 gO gM 0 (.slice (some ⟨g1, 0, none⟩) 1 1) (.slice (some ⟨g2, 0, none⟩) 1 1) (.slice (some ⟨g3, 0, none⟩) 1 1) (.slice (some ⟨g4, 0, none⟩) 1 1) (.slice none 0 0) (.slice none 0 0) ⟨[⟨y1, y2⟩], [⟨#[]⟩], [-1], [0], [], []⟩) := by
  have q1 := Sg1.out; have q2 := Sg2.out; have q3 := Sg3.out; have q4 := Sg4.out; have q5 := SgM.out; have q6 := SgO.out
  have z5 := Z5.out; have z2 := ZB.out; have zf := GF.out; have zg := GF2.out
  have bz : w.heap.size ≤ w5.heap.size := HB5.out.size
  refine ⟨⟨KgO.out, KgM.out, ?_, ?_, by omega, by omega, fun _ => rfl, fun _ => rfl, ?_, ?_, ?_, ?_, Kd.R_nil _ _ _ _ _, Kd.R_nil _ _ _ _ _⟩⟩
  ·show (if gO = g2 then 1 else if gO = g3 then 2 else if gO = g4 then 3 else if gO = gO then 6 else if gO = gM then 7 else 0) = 6
   rw [if_neg (by omega), if_neg (by omega), if_neg (by omega), if_pos rfl]
  ·show (if gM = g2 then 1 else if gM = g3 then 2 else if gM = g4 then 3 else if gM = gO then 6 else if gM = gM then 7 else 0) = 7
   rw [if_neg (by omega), if_neg (by omega), if_neg (by omega), if_neg (by omega), if_pos rfl]
  ·refine S_blk (x := ⟨y1, y2⟩) Kg1.out (by omega) ?_ ?_ ?_ NE.out
   ·show (if g1 = g2 then 1 else if g1 = g3 then 2 else if g1 = g4 then 3 else if g1 = gO then 6 else if g1 = gM then 7 else 0) = 0
    rw [if_neg (by omega), if_neg (by omega), if_neg (by omega), if_neg (by omega), if_neg (by omega)]
   ·refine Kd.R_mono (Kd.R_lower Y0.out (by omega)) (fun k hk => ?_)
    have hk2 := hk.2.2.1
    show (if k = g2 then 1 else if k = g3 then 2 else if k = g4 then 3 else if k = gO then 6 else if k = gM then 7 else 0) = 0 ∧ k ≠ g1
    rw [if_neg (by omega), if_neg (by omega), if_neg (by omega), if_neg (by omega), if_neg (by omega)]
    exact ⟨rfl, by omega⟩
   ·refine Kd.R_mono (Kd.R_lower Y1.out (by omega)) (fun k hk => ?_)
    have hk2 := hk.2.2.1
    show (if k = g2 then 1 else if k = g3 then 2 else if k = g4 then 3 else if k = gO then 6 else if k = gM then 7 else 0) = 0 ∧ k ≠ g1
    rw [if_neg (by omega), if_neg (by omega), if_neg (by omega), if_neg (by omega), if_neg (by omega)]
    exact ⟨rfl, by omega⟩
  ·exact R_blk Kg2.out (by omega) (if_pos rfl)
  ·refine R_blk Kg3.out (by omega) ?_
   show (if g3 = g2 then 1 else if g3 = g3 then 2 else if g3 = g4 then 3 else if g3 = gO then 6 else if g3 = gM then 7 else 0) = 2
   rw [if_neg (by omega), if_pos rfl]
  ·refine R_blk Kg4.out (by omega) ?_
   show (if g4 = g2 then 1 else if g4 = g3 then 2 else if g4 = g4 then 3 else if g4 = gO then 6 else if g4 = gM then 7 else 0) = 3
   rw [if_neg (by omega), if_neg (by omega), if_pos rfl]
 clear Kg1 Kg2 Kg3 Kg4 KgM KgO Sg1 Sg2 Sg3 Sg4 SgM SgO Y0 Y1 NE BF GF GF2 Z5 ZB B3 BS H0 H1 G0 G1 HA hcf0 hcf1 hff0 hff1 HB5
 go_loopg [7] k (fun kq v7 w' => ∃ (x7 : Int) (n : Nat) (col : Nat → Nat) (vL vW vF vB vT vS : Value) (s : Orb), v7 = .int .i64 x7 ∧ Aside0 (loopO kq s x7 = some R) ∧ Aside0 (kq ≤ k) ∧ Aside0 (n = 0 ∨ n = 2) ∧ Aside0 (OrbH w.heap.size col w' gO gM n vL vW vF vB vT vS s) ∧ Aside0 (Below w.heap.size w w'))
 case atStart => exact ⟨0, 0, _, _, _, _, _, _, _, _, rfl, HL, ⟨Nat.le_refl _⟩, ⟨.inl rfl⟩, HH, HB⟩
 case round =>
  clear HL HH HB
  obtain ⟨x7, n, col, vL, vW, vF, vB, vT, vS, s, rfl, HA, HK, HN, HH, HB⟩ := hrel
  cases gk with
  | zero => exact absurd HA.out (by simp [loopO])
  | succ k1 =>
   have H := HA.out
   clear HA
   simp only [loopO] at H
   obtain ⟨AL, cL, eL⟩ := Kd.S_slice HH.out.hL
   subst eL
   have hco0 : wr.cell? ⟨gO, 0, none⟩ = some (.slice AL s.L.length cL) := (blk_cell HH.out.hO 0).trans rfl
   have hfo0 := blk_frozen HH.out.hO 0
   by_cases hq1 : x7 < (s.L.length : Int)
   ·rw [if_pos hq1] at H
    have c1b := decide_eq_true hq1
    obtain ⟨z, AZ, H⟩ := bi_ H
    have HR := Aside0.mk H
    clear H
    obtain ⟨wo, hwo⟩ : ∃ wo : World, wo = wr := ⟨_, rfl⟩
    subst hwo
    go_wp2_with (first | ((with_reducible refine gate_dst (N := 37) rfl ?_); refine lit_event 37 #[.int .u8 84, .int .u8 83] 5 2 ?_; intro gl hg w12 hbox hb; have SL := Aside0.mk (show wo.heap.size ≤ gl from Nat.le_of_eq hg.symm); have BL := Aside0.mk hbox; have HH2 := Aside0.mk ((HH.out.recol (col' := fun k => if k = gl then 8 else col k) (fun k hk => if_neg (by have := SL.out; omega))).below hb); replace HB := b1_ hb; clear hb hbox hg))
    clear hco0 hfo0 c1b HH
    have SLG := SL
    go_loopg [39] 2 (fun gi v39 w' => ∃ (jj n' : Nat) (col' : Nat → Nat) (vL vW vF vB vT vS : Value) (s' : Orb), v39 = .int .i64 (jj : Int) ∧ Aside0 (jj ≤ 2) ∧ Aside0 (2 - jj ≤ gi) ∧ Aside0 (innerO k1 x7 (([84, 83] : List Int).drop jj) s' = some z) ∧ Aside0 ((jj = 0 → n' = 0 ∨ n' = 2) ∧ (jj = 1 → n' = 1 ∨ n' = 2) ∧ (jj = 2 → n' = 2)) ∧ Aside0 (col' gl = 8) ∧ Aside0 (w'.heap[gl]? = some (.cells #[.int .u8 84, .int .u8 83] 5 (0, 0))) ∧ Aside0 (OrbH w.heap.size col' w' gO gM n' vL vW vF vB vT vS s') ∧ Aside0 (Below w.heap.size w w'))
    case atStart => exact ⟨0, n, (fun k => if k = gl then 8 else col k), _, _, _, _, _, _, s, rfl, ⟨by omega⟩, ⟨by omega⟩, AZ, ⟨⟨fun _ => HN.out, fun e => absurd e (by decide), fun e => absurd e (by decide)⟩⟩, ⟨if_pos rfl⟩, BL, HH2, HB⟩
    case round =>
     clear AZ HH2 HB BL SL HN
     obtain ⟨jj, n', col', vL', vW', vF', vB', vT', vS', s', rfl, HJ, HG, AZ, HN, HC, BL, HH, HB⟩ := hrel
     have hj := HJ.out
     obtain ⟨AL', cL', eL'⟩ := Kd.S_slice HH.out.hL
     subst eL'
     have hcl0 : wr.cell? ⟨gl, 0, none⟩ = some (.int .u8 84) := (blk_cell BL.out 0).trans rfl
     have hcl1 : wr.cell? ⟨gl, 1, none⟩ = some (.int .u8 83) := (blk_cell BL.out 1).trans rfl
     have hfl0 := blk_frozen BL.out 0
     have hfl1 := blk_frozen BL.out 1
     have hco0 : wr.cell? ⟨gO, 0, none⟩ = some (.slice AL' s'.L.length cL') := (blk_cell HH.out.hO 0).trans rfl
     have hfo0 := blk_frozen HH.out.hO 0
     rcases Nat.lt_or_ge jj 2 with hj2 | hj2
     ·have hq3 : jj = 0 ∨ jj = 1 := by omega
      rcases hq3 with rfl | rfl
      ·skip
       have hn0 := Aside0.mk (HN.out.1 rfl)
       have H := AZ.out
       clear AZ
       change innerO k1 x7 (84 :: [83]) s' = some z at H
       simp only [innerO] at H
       obtain ⟨zz, AS, H⟩ := bi_ H
       have HT := Aside0.mk H
       have H := AS.out
       clear AS
       unfold stpO at H
       have hi0 := cp_ H
       replace H := ca_ H
       have hi1 := cp_ H
       replace H := ca_ H
       obtain ⟨⟨x1, x2⟩, AX, H⟩ := bi_ H
       obtain ⟨⟨y1', y2', yb⟩, AY, H⟩ := bi_ H
       obtain ⟨j, AJ, H⟩ := bi_ H
       dsimp only at H AY AJ
       have HS := Aside0.mk H
       clear H
       obtain ⟨adx, Ax0, cx0, Ax1, cx1, ex, hx0, hx1, hlx0, hix0, hlx1, hix1⟩ := at_T25 (Kd.S_reads' HH.out.hL).2.2 x7 hi0 hi1
       cases ex
       have X0 := Aside0.mk hix0; have X1 := Aside0.mk hix1; have LX0 := Aside0.mk hlx0; have LX1 := Aside0.mk hlx1
       clear hix0 hix1 hlx0 hlx1
       have ti0 := eq_true hi0
       have ti1 := eq_true hi1
       have td1 := decide_eq_true hi1
       go_upto_region 12 with (first | ((with_reducible refine gate_callee (f := 63) rfl ?_); refine gL_ (some 52) Try.func63 #[.agg #[.slice Ax0 (rd_T25 s'.L x7).f0.length cx0, .slice Ax1 (rd_T25 s'.L x7).f1.length cx1], .int .u8 84] rfl qa_ ?_; (with_reducible refine (Z11.calls k1 _ _ (rd_T25 s'.L x7).f0 _ _ (rd_T25 s'.L x7).f1 84 x1 x2 _ X0.out LX0.out X1.out LX1.out AX.out).mono ?_); rintro e w13 ⟨v0, v1, rfl, ho0, ho1, hb⟩; refine ⟨_, rfl, ?_⟩; replace HH := Aside0.mk (HH.out.below hb); replace BL := bb_ BL hb; replace HB := b1_ hb; clear hb; obtain ⟨Al0, cl0, el0⟩ := Kd.R_slice ho0; subst el0; obtain ⟨Al1, cl1, el1⟩ := Kd.R_slice ho1; subst el1; have LT0 := Aside0.mk (Kd.R_reads' ho0).2; have LT1 := Aside0.mk (Kd.R_reads' ho1).2; clear ho0 ho1) | ((with_reducible refine gate_callee (f := 28) rfl ?_); refine gL_ (some 53) Try.func28 #[.agg #[.slice Al0 x1.length cl0, .slice Al1 x2.length cl1]] rfl qa_ ?_; (with_reducible refine (Z41.calls k1 _ _ x1 _ _ x2 y1' y2' yb _ LT0.out.2 LT0.out.1 LT1.out.2 LT1.out.1 AY.out).mono ?_); rintro e w14 ⟨v0, v1, rfl, ho0, ho1, hb⟩; refine ⟨_, rfl, ?_⟩; have ZC := Aside0.mk (below_size hB_ : w.heap.size ≤ w13.heap.size); have ZD := Aside0.mk hb.size; have SL13 := Aside0.mk (Kd.S_below (Kd.S_mono (ok' := fun k_ => col' k_ = 0 ∧ k_ < w13.heap.size) (Kd.S_bound HH.out.hL) (fun k_ hk_ => ⟨hk_.1, hk_.2.2.1⟩)) hb); replace HH := Aside0.mk ((HH.out.recol (col' := rcl w13.heap.size col' 0) (fun k hk => rcl_old hk)).below hb); replace HC := Aside0.mk ((rcl_old (blk_lt BL.out)).trans HC.out : rcl w13.heap.size col' 0 gl = 8); replace BL := bb_ BL hb; replace HB := b1_ hb; clear hb; obtain ⟨Ay0, cy0, ey0⟩ := Kd.R_slice ho0; subst ey0; obtain ⟨Ay1, cy1, ey1⟩ := Kd.R_slice ho1; subst ey1; have Y0 := Aside0.mk ho0; have Y1 := Aside0.mk ho1; clear ho0 ho1) | ((with_reducible refine gate_dst (N := 10) rfl ?_); refine bx_ 10 #[.slice none 0 0, .slice none 0 0] 25 ?_; intro gx hg w15 hbox hb; have GX := Aside0.mk (show w14.heap.size ≤ gx from Nat.le_of_eq hg.symm); have BX := Aside0.mk hbox; have B3 := Aside0.mk hb; clear hb hbox hg; obtain ⟨hcf0, hcf1, hff0, hff1⟩ := c2_ BX))
       obtain ⟨hbox, hkp, hB2⟩ := box_store (w0 := w14) BX.out (.slice Ay0 y1'.length cy0) (.slice Ay1 y2'.length cy1) B3.out GX.out
       generalize hw : ((w15.setCell ⟨gx, 0, none⟩ (.slice Ay0 y1'.length cy0)).setCell ⟨gx, 1, none⟩ (.slice Ay1 y2'.length cy1)) = w16 at hbox hkp hB2 ⊢
       clear hw hcf0 hcf1 hff0 hff1 hcl0 hcl1 hfl0 hfl1 hco0 hfo0 hx0 hx1 X0 X1 LX0 LX1 LT0 LT1
       have NE := Aside0.mk (show NeRow (.slice Ay0 y1'.length cy0) (.slice Ay1 y2'.length cy1) from fun k_ e1_ e2_ => (Y0.out.1 k_ e1_) e2_.symm)
       replace HH := Aside0.mk (HH.out.below hB2)
       replace BL := Aside0.mk (blk_below BL.out hB2)
       replace Y0 := Aside0.mk (Kd.R_below (Kd.R_bound Y0.out) hB2)
       replace Y1 := Aside0.mk (Kd.R_below (Kd.R_bound Y1.out) hB2)
       replace SL13 := Aside0.mk (Kd.S_below SL13.out hB2)
       replace HB := Aside0.mk (below_step HB.out hB2)
       replace BX := Aside0.mk (show w16.heap[gx]? = some (.cells #[.slice Ay0 y1'.length cy0, .slice Ay1 y2'.length cy1] 25 (0, 0)) from hbox)
       have ZE := Aside0.mk hB2.size
       clear hbox hkp hB2 B3
       obtain ⟨hcx0, hcx1, hfx0, hfx1⟩ := c2_ BX
       have hLr := (Kd.S_reads' HH.out.hL).2
       have RL := Aside0.mk hLr
       clear hLr
       go_upto_region 13 with (first | ((with_reducible refine gate_callee (f := 72) rfl ?_); refine gL_ (some 58) Try.func72 #[.pointer (some ⟨gO, 0, none⟩), .agg #[.slice Ay0 y1'.length cy0, .slice Ay1 y2'.length cy1]] rfl qa_ ?_; (with_reducible refine (index_calls k1 gO _ _ s'.L _ _ _ _ _ _ y1' _ _ y2' j _ RL.out.2 RL.out.1 (Kd.R_reads' Y0.out).2.2 (Kd.R_reads' Y0.out).2.1 (Kd.R_reads' Y1.out).2.2 (Kd.R_reads' Y1.out).2.1 HH.out.hO AJ.out).mono ?_); rintro e w17 ⟨rfl, hb⟩; refine ⟨_, rfl, ?_⟩; have ZF := Aside0.mk hb.size; replace HH := Aside0.mk (HH.out.below hb); replace BL := bb_ BL hb; replace BX := bb_ BX hb; replace Y0 := Aside0.mk (Kd.R_below Y0.out hb); replace Y1 := Aside0.mk (Kd.R_below Y1.out hb); replace SL13 := Aside0.mk (Kd.S_below SL13.out hb); replace HB := b1_ hb; clear hb))
       clear hcx0 hcx1 hfx0 hfx1 RL
       have ZW := Aside0.mk (show w13.heap.size ≤ w17.heap.size from Nat.le_trans ZD.out (Nat.le_trans ZE.out ZF.out))
       clear ZD ZE ZF
       by_cases hj0 : j < 0
       ·have H := HS.out
        clear HS
        rw [if_pos hj0] at H
        have hjb := decide_eq_true hj0
        have hco0 : w17.cell? ⟨gO, 0, none⟩ = some (.slice (some adx) s'.L.length cL') := (blk_cell HH.out.hO 0).trans rfl
        have hfo0 := blk_frozen HH.out.hO 0
        by_cases hq5 : (s'.L.length : Int) = 120
        ·rw [if_pos hq5] at H
         obtain rfl := Option.some.inj H
         clear H
         have hzn : z = none := (Option.some.inj HT.out).symm
         subst hzn
         have hRn : R = none := (Option.some.inj HR.out).symm
         subst hRn
         have e5b : ((s'.L.length : Int) == 120) = true := beq_iff_eq.mpr hq5
         clear hq5
         go_wp2
         go_ret2
         exact ⟨qb_, hB_⟩
        ·rw [if_neg hq5] at H
         have e5b : ((s'.L.length : Int) == 120) = false := beq_eq_false_iff_ne.mpr hq5
         clear hq5
         have hlen := cp_ H
         replace H := ca_ H
         have hiW := cp_ H
         replace H := ca_ H
         have hsz := cp_ H
         replace H := Option.some.inj (ca_ H)
         subst H
         rw [if_pos rfl, if_pos rfl] at HT
         have LN := Aside0.mk hlen
         have LS := Aside0.mk hsz
         clear hlen hsz
         go_upto_region 17 with (fail)
         clear hco0 hfo0 e5b
         replace HH := Aside0.mk (HH.out.below (below_drew1 (Below.refl _ _)))
         replace BL := Aside0.mk (blk_drew BL.out)
         replace BX := Aside0.mk (blk_drew BX.out)
         replace HB := Aside0.mk (below_drew1 HB.out)
         replace Y0 := Aside0.mk (Kd.R_bound (Kd.R_drew Y0.out))
         replace Y1 := Aside0.mk (Kd.R_bound (Kd.R_drew Y1.out))
         replace SL13 := Aside0.mk (Kd.S_drew SL13.out)
         replace ZW := Aside0.mk (show w13.heap.size ≤ w17.drew.heap.size from ZW.out)
         refine start_ (n := 11) (S := fun w' => w'.cell? ⟨gO, 0, none⟩ = some (.slice (some adx) s'.L.length cL') ∧ w'.cell? ⟨gx, 0, none⟩ = some (.slice Ay0 y1'.length cy0) ∧ w'.cell? ⟨gx, 1, none⟩ = some (.slice Ay1 y2'.length cy1)) (ds := [7, 10]) (bl_ 11 0) (by kernel_rfl) rfl (by kernel_rfl) ⟨(blk_cell HH.out.hO 0).trans rfl, (blk_cell BX.out 0).trans rfl, (blk_cell BX.out 1).trans rfl⟩ (fun hHeld => ?_)
         refine with_tabW orb_tab17 orb_bits17 (fun HT_ HW_ => ?_)
         generalize w17.drew = wa at HH BL BX HB Y0 Y1 SL13 ZW hHeld ⊢
         refine pu_ 0 (some 68) (bl_ 11 1) HT_ ?_
         refine pu_ 1 (some 69) (bl_ 11 3) HT_ ?_
         refine pu_ 2 (some 70) (bl_ 11 7) HT_ ?_
         refine pu_ 3 (some 71) (bl_ 11 15) HT_ ?_
         refine ta_ 4 (some 72) (bl_ 11 31) HT_ HW_ hHeld ?_
         refine ta_ 5 (some 73) (bl_ 11 63) HT_ HW_ hHeld ?_
         refine on_ 6 (some 74) (bl_ 11 127) HT_ (fun K hK => ?_)
         refine value_ (w1 := ?_) (v := ?_) (by rfl) rfl ?_ ?_
         rotate_left 2
         ·go_simp
          constructor
          ·rfl
          ·rfl
         refine hK.out _ _ ⟨((below_alloc (Below.refl _ _) _).cell (World.block_lt_of_cell? _ _ hHeld.1)).trans hHeld.1, ((below_alloc (Below.refl _ _) _).cell (World.block_lt_of_cell? _ _ hHeld.2.1)).trans hHeld.2.1, ((below_alloc (Below.refl _ _) _).cell (World.block_lt_of_cell? _ _ hHeld.2.2)).trans hHeld.2.2⟩ (fun hHeld => ?_)
         clear hK K
         refine no_ (some 74) ?_
         refine last_ (i := 7) (N := some 75) (bl_ 11 255) rfl rfl (one_of HT_.out (by kernel_rfl)) (by decide) (fun K hK => ?_)
         refine Kd.S_append_step k25 (w0 := w) w.heap.size (by rfl) (.tmp 72) (.tmp 74) 36 25 (.agg #[(.slice none 0 0), (.slice none 0 0)]) 48 rfl Try.underlying36 info25 rfl (by decide) (by omega) (.slice (some adx) s'.L.length cL') s'.L (⟨y1', y2'⟩ : S25) [.slice Ay0 y1'.length cy0, .slice Ay1 y2'.length cy1] (fun k_ => rcl wa.heap.size (rcl w13.heap.size col' 0) 0 k_ = 0) (fun k_ => w13.heap.size ≤ k_ ∧ k_ < wa.heap.size) rfl rfl ?aP ?aQ (fun k_ hk => rcl_new hk) ?aO HB.out HB.out.size (by have := LN.out; omega) ?_
         case aP => exact k25_mkM _ _ _ (⟨y1', y2'⟩ : S25) (Kd.R_mono (Kd.R_lower Y0.out ZC.out) (fun k_ hk => ⟨hk.2.1, hk.2.2.1⟩)) (Kd.R_mono (Kd.R_lower Y1.out ZC.out) (fun k_ hk => ⟨hk.2.1, hk.2.2.1⟩)) NE.out
         case aQ => exact fun k_ hk => ⟨(rcl_old hk.2).trans (rcl_new hk.1), fun e => by have := ((Kd.S_R SL13.out).1 k_ e.symm).2; have := hk.1; omega⟩
         case aO => exact Kd.S_mono SL13.out (fun k_ hk => ⟨(rcl_old (Nat.lt_of_lt_of_le hk.2 ZW.out)).trans ((rcl_old hk.2).trans hk.1), fun h_ => by have := hk.2; have := h_.1; omega⟩)
         intro v1 wb ho hb hg hat
         obtain ⟨An1, cn1, en1⟩ := Kd.S_slice ho
         subst en1
         have HO19 := (B_gr HH.out.hO HH.out.cO hg (Kd.S_R HH.out.hL).1 (by decide)).1
         have HC3 := Aside0.mk (B_gr BL.out HC.out hg (Kd.S_R HH.out.hL).1 (by decide))
         have HP := HH.out.putL hg ho
         have HB2 := Aside0.mk hb
         refine hK.out _ _ ?_
         clear hK K ho hb hg hat SL13 Y0 Y1 BX NE GX
         refine no_ (some 75) ?_
         refine pu_ 8 (some 76) (bl_ 11 511) HT_ ?_
         refine pu_ 9 (some 77) (bl_ 11 1023) HT_ ?_
         refine last_ (i := 10) (N := none) (bl_ 11 2047) rfl rfl (one_of HT_.out (by kernel_rfl)) (by decide) (fun K hK => ?_)
         have hs19 : wb.cell? ⟨gO, 0, none⟩ = some (.slice (some adx) s'.L.length cL') := (blk_cell HO19 0).trans rfl
         have hf19 := blk_frozen HO19 0
         refine skip_ (w1 := wb.setCell ⟨gO, 0, none⟩ (.slice An1 (s'.L ++ [(⟨y1', y2'⟩ : S25)]).length cn1)) (by rfl) rfl ?_ ?_
         ·go_simp
         refine hK.out _ _ ?_
         clear hK K hs19 hf19
         refine done_ (done_of HT_.out (by kernel_rfl)) ?_
         have hne_ : gl ≠ gO := fun e => by have a1 := HC3.out.2; have a2 := HP.cO; rw [e] at a1; omega
         have HB3 := Aside0.mk (below_set (g := gO) (j := 0) (v := (.slice An1 (s'.L ++ [(⟨y1', y2'⟩ : S25)]).length cn1)) HB2.out HP.bO)
         have BL2 := Aside0.mk (put_far HC3.out.1 hne_ 0 (.slice An1 (s'.L ++ [(⟨y1', y2'⟩ : S25)]).length cn1))
         have HCN := HC3.out.2
         clear HH BL HB HC HC3 HB2 HO19
         generalize hwc : wb.setCell ⟨gO, 0, none⟩ (.slice An1 (s'.L ++ [(⟨y1', y2'⟩ : S25)]).length cn1) = wc at HP HB3 BL2 ⊢
         clear hwc
         obtain ⟨colwc, hh_, hc_⟩ : ∃ c_, OrbH w.heap.size c_ wc gO gM n' _ _ _ _ _ _ _ ∧ c_ gl = 8 := ⟨_, HP, HCN⟩
         have HH := Aside0.mk hh_; have HC := Aside0.mk hc_; have BL := BL2; have HB := HB3
         clear hh_ hc_ BL2 HB3 HP HCN hne_
         obtain ⟨AW, cW, eW⟩ := Kd.R_slice HH.out.hW
         subst eW
         go_upto_region 18 with (fail)
         replace HH := Aside0.mk (HH.out.below (below_drew1 (Below.refl _ _)))
         replace BL := Aside0.mk (blk_drew BL.out)
         replace HB := Aside0.mk (below_drew1 HB.out)
         obtain ⟨adw, ew, hxw⟩ := Kd.at_string (Kd.R_reads' HH.out.hW).2.2 x7 hi0 hiW
         cases ew
         have tw1 := eq_true hiW
         have tw2 := decide_eq_true hiW
         refine start_ (n := 21) (S := fun w' => w'.cell? ⟨gO, 1, none⟩ = some (.slice (some adw) s'.W.length cW) ∧ w'.cell? (adw.add (x7).toNat) = some (.string (rdOf ByteArray.empty s'.W x7))) (ds := [17, 20]) (bl_ 21 0) (by kernel_rfl) rfl (by kernel_rfl) ⟨(blk_cell HH.out.hO 1).trans rfl, hxw⟩ (fun hHeld => ?_)
         refine with_tabW orb_tab18 orb_bits18 (fun HT_ HW_ => ?_)
         clear hxw
         generalize wc.drew = wd at HH BL HB hHeld ⊢
         refine pu_ 0 (some 78) (bl_ 21 1) HT_ ?_
         refine pu_ 1 (some 79) (bl_ 21 3) HT_ ?_
         refine pu_ 2 (some 80) (bl_ 21 7) HT_ ?_
         refine pu_ 3 (some 81) (bl_ 21 15) HT_ ?_
         refine ta_ 4 (some 82) (bl_ 21 31) HT_ HW_ hHeld ?_
         refine pu_ 5 (some 83) (bl_ 21 63) HT_ ?_
         refine pu_ 6 (some 84) (bl_ 21 127) HT_ ?_
         refine pu_ 7 (some 85) (bl_ 21 255) HT_ ?_
         refine ta_ 8 (some 86) (bl_ 21 511) HT_ HW_ hHeld ?_
         refine pu_ 9 (some 87) (bl_ 21 1023) HT_ ?_
         refine pu_ 10 (some 88) (bl_ 21 2047) HT_ ?_
         refine ta_ 11 (some 89) (bl_ 21 4095) HT_ HW_ hHeld ?_
         refine pu_ 12 (some 90) (bl_ 21 8191) HT_ ?_
         refine on_ 13 (some 91) (bl_ 21 16383) HT_ (fun K hK => ?_)
         refine Kd.R_lit_step (Kd.int .u8) _ 5 ?hg (N := 91) ?hd (xs := ([84] : List Int)) (inner := [.int .u8 84]) (ok := fun _ => True) (okp := fun _ => True) ?hr ?hp (fun _ hk => hk) trivial (Below.refl _ _) (Nat.le_refl _) (by simp) ?_; (case hd => rfl); (case hg => rfl); (case hr => first | (go_simp; done) | (go_simp; rfl)); (case hp => exact (Reps.one (show Kd.M (Kd.int .u8) _ _ _ 84 [.int .u8 84] from rfl) (Reps.none _ _)))
         intro vq we hoq hb hg_ hnew_
         have hS1_ := (hb.cell (World.block_lt_of_cell? _ _ hHeld.1)).trans hHeld.1
         have hS2_ := (hb.cell (World.block_lt_of_cell? _ _ hHeld.2)).trans hHeld.2
         replace HH := Aside0.mk (HH.out.below hb)
         replace BL := bb_ BL hb
         replace HB := b1_ hb
         have HOq := Aside0.mk hoq
         clear hg_ hnew_ hb hoq
         refine hK.out _ _ ⟨hS1_, hS2_⟩ (fun hHeld => ?_)
         clear hK K hS1_ hS2_
         refine no_ (some 91) ?_
         refine on_ 14 (some 92) (bl_ 21 32767) HT_ (fun K hK => ?_)
         have hcv47 := own_string (P := Try.prog) Try.underlying22 Try.underlying5 Try.underlying9 (Kd.own_of_R HOq.out)
         refine value_ (w1 := ?_) (v := ?_) (by rfl) rfl ?_ ?_
         rotate_left 2
         ·go_simp
          constructor
          ·rfl
          ·rfl
         clear hcv47 HOq
         refine hK.out _ _ hHeld (fun hHeld => ?_)
         clear hK K
         refine no_ (some 92) ?_
         have hs1_ : (strOfNums [(84 : Int)]).size = 1 := by decide +kernel
         have tw3 : (9223372036854775807 < (rdOf ByteArray.empty s'.W x7).size + (strOfNums [(84 : Int)]).size) = False := eq_false (by rw [hs1_]; have := LS.out; omega)
         clear hs1_
         refine pu_ 15 (some 93) (bl_ 21 65535) HT_ ?_
         clear tw3
         refine on_ 16 (some 94) (bl_ 21 131071) HT_ (fun K hK => ?_)
         refine value_ (w1 := ?_) (v := ?_) (by rfl) rfl ?_ ?_
         rotate_left 2
         ·go_simp
          constructor
          ·rfl
          ·rfl
         refine hK.out _ _ ⟨((below_alloc (Below.refl _ _) _).cell (World.block_lt_of_cell? _ _ hHeld.1)).trans hHeld.1, ((below_alloc (Below.refl _ _) _).cell (World.block_lt_of_cell? _ _ hHeld.2)).trans hHeld.2⟩ (fun hHeld => ?_)
         clear hK K
         refine no_ (some 94) ?_
         refine last_ (i := 17) (N := some 95) (bl_ 21 262143) rfl rfl (one_of HT_.out (by kernel_rfl)) (by decide) (fun K hK => ?_)
         refine Kd.R_append_step Kd.string (w0 := w) w.heap.size (by rfl) (.tmp 82) (.tmp 94) 53 9 (.string ⟨#[]⟩) 16 rfl Try.underlying53 info9 rfl (by decide) (by omega) (.slice (some adw) s'.W.length cW) s'.W ((rdOf ByteArray.empty s'.W x7) ++ (strOfNums [84])) [.string ((rdOf ByteArray.empty s'.W x7) ++ (strOfNums [84]))] (fun k_ => rcl we.heap.size colwc 1 k_ = 1) (fun _ => False) rfl rfl rfl (fun _ hk => hk.elim) (fun k_ hk => rcl_new hk) (R_col HH.out.hW (fun k_ hk => rcl_old hk)) HB.out HB.out.size (by have := LN.out; omega) ?_
         intro v2 wf ho hb hg hat
         obtain ⟨An2, cn2, en2⟩ := Kd.R_slice ho
         subst en2
         have HO19 := (B_gr HH.out.hO HH.out.cO hg HH.out.hW.1 (by decide)).1
         have HC3 := Aside0.mk (B_gr BL.out HC.out hg HH.out.hW.1 (by decide))
         have HP := HH.out.putW hg ho
         have HB2 := Aside0.mk hb
         refine hK.out _ _ ?_
         clear hK K ho hb hg hat
         refine no_ (some 95) ?_
         refine pu_ 18 (some 96) (bl_ 21 524287) HT_ ?_
         refine pu_ 19 (some 97) (bl_ 21 1048575) HT_ ?_
         refine last_ (i := 20) (N := none) (bl_ 21 2097151) rfl rfl (one_of HT_.out (by kernel_rfl)) (by decide) (fun K hK => ?_)
         have hs19 : wf.cell? ⟨gO, 1, none⟩ = some (.slice (some adw) s'.W.length cW) := (blk_cell HO19 1).trans rfl
         have hf19 := blk_frozen HO19 1
         refine skip_ (w1 := wf.setCell ⟨gO, 1, none⟩ (.slice An2 (s'.W ++ [(rdOf ByteArray.empty s'.W x7) ++ (strOfNums [84])]).length cn2)) (by rfl) rfl ?_ ?_
         ·go_simp
         refine hK.out _ _ ?_
         clear hK K hs19 hf19
         refine done_ (done_of HT_.out (by kernel_rfl)) ?_
         have hne_ : gl ≠ gO := fun e => by have a1 := HC3.out.2; have a2 := HP.cO; rw [e] at a1; omega
         have HB3 := Aside0.mk (below_set (g := gO) (j := 1) (v := (.slice An2 (s'.W ++ [(rdOf ByteArray.empty s'.W x7) ++ (strOfNums [84])]).length cn2)) HB2.out HP.bO)
         have BL2 := Aside0.mk (put_far HC3.out.1 hne_ 1 (.slice An2 (s'.W ++ [(rdOf ByteArray.empty s'.W x7) ++ (strOfNums [84])]).length cn2))
         have HCN := HC3.out.2
         clear HH BL HB HC HC3 HB2 HO19
         generalize hwc : wf.setCell ⟨gO, 1, none⟩ (.slice An2 (s'.W ++ [(rdOf ByteArray.empty s'.W x7) ++ (strOfNums [84])]).length cn2) = wg at HP HB3 BL2 ⊢
         clear hwc
         obtain ⟨colwg, hh_, hc_⟩ : ∃ c_, OrbH w.heap.size c_ wg gO gM n' _ _ _ _ _ _ _ ∧ c_ gl = 8 := ⟨_, HP, HCN⟩
         have HH := Aside0.mk hh_; have HC := Aside0.mk hc_; have BL := BL2; have HB := HB3
         clear hh_ hc_ BL2 HB3 HP HCN hne_
         obtain ⟨AF, cF, eF⟩ := Kd.R_slice HH.out.hF
         subst eF
         go_upto_region 19 with (fail)
         have hco_ : wg.cell? ⟨gO, 2, none⟩ = some (.slice AF s'.F.length cF) := (blk_cell HH.out.hO 2).trans rfl
         have hfo_ := blk_frozen HH.out.hO 2
         go_upto_region 20 with (first | ((with_reducible refine gate_builtin (b := .append) (xs := #[.tmp 102, .tmp 104]) rfl ?_); at_builtin; refine Kd.R_append (Kd.int .i64) (w0 := w) w.heap.size rfl (.tmp 102) (.tmp 104) 23 3 (.int .i64 0) 8 rfl Try.underlying23 info3 rfl (by decide) (by omega) (.slice AF s'.F.length cF) s'.F (x7) [.int .i64 (x7)] (fun k_ => rcl wg.heap.size colwg 2 k_ = 2) (fun _ => False) rfl rfl rfl (fun _ hk => hk.elim) (fun k_ hk => rcl_new hk) (R_col HH.out.hF (fun k_ hk => rcl_old hk)) HB.out HB.out.size (by have := LN.out; omega) ?_; intro v3 wh ho hb hg hat; obtain ⟨Anv3, cnv3, env3⟩ := Kd.R_slice ho; subst env3; rw [List.length_append, List.length_singleton] at ho; have HO19 := (B_gr HH.out.hO HH.out.cO hg HH.out.hF.1 (by decide)).1; have HC3 := Aside0.mk (B_gr BL.out HC.out hg HH.out.hF.1 (by decide)); have HP := HH.out.putF hg ho; have HB2 := Aside0.mk hb; clear ho hb hg hat hco_ hfo_; have hs19 : wh.cell? ⟨gO, 2, none⟩ = some (.slice AF s'.F.length cF) := (blk_cell HO19 2).trans rfl; have hf19 := blk_frozen HO19 2))
         clear hs19 hf19
         have hne_ : gl ≠ gO := fun e => by have a1 := HC3.out.2; have a2 := HP.cO; rw [e] at a1; omega
         have HB3 := Aside0.mk (below_set (g := gO) (j := 2) (v := (.slice Anv3 (s'.F.length + 1) cnv3)) HB2.out HP.bO)
         have BL2 := Aside0.mk (put_far HC3.out.1 hne_ 2 (.slice Anv3 (s'.F.length + 1) cnv3))
         have HCN := HC3.out.2
         clear HH BL HB HC HC3 HB2 HO19
         generalize hwc : wh.setCell ⟨gO, 2, none⟩ (.slice Anv3 (s'.F.length + 1) cnv3) = wi at HP HB3 BL2 ⊢
         clear hwc
         obtain ⟨colwi, hh_, hc_⟩ : ∃ c_, OrbH w.heap.size c_ wi gO gM n' _ _ _ _ _ _ _ ∧ c_ gl = 8 := ⟨_, HP, HCN⟩
         have HH := Aside0.mk hh_; have HC := Aside0.mk hc_; have BL := BL2; have HB := HB3
         clear hh_ hc_ BL2 HB3 HP HCN hne_
         obtain ⟨AB, cB, eB⟩ := Kd.R_slice HH.out.hB
         subst eB
         have hco_ : wi.cell? ⟨gO, 3, none⟩ = some (.slice AB s'.B.length cB) := (blk_cell HH.out.hO 3).trans rfl
         have hfo_ := blk_frozen HH.out.hO 3
         go_upto_region 21 with (first | ((with_reducible refine gate_builtin (b := .append) (xs := #[.tmp 112, .tmp 114]) rfl ?_); at_builtin; refine Kd.R_append (Kd.int .u8) (w0 := w) w.heap.size rfl (.tmp 112) (.tmp 114) 22 5 (.int .u8 0) 1 rfl Try.underlying22 info5 rfl (by decide) (by omega) (.slice AB s'.B.length cB) s'.B (84) [.int .u8 (84)] (fun k_ => rcl wi.heap.size colwi 3 k_ = 3) (fun _ => False) rfl rfl rfl (fun _ hk => hk.elim) (fun k_ hk => rcl_new hk) (R_col HH.out.hB (fun k_ hk => rcl_old hk)) HB.out HB.out.size (by have := LN.out; omega) ?_; intro v4 wj ho hb hg hat; obtain ⟨Anv4, cnv4, env4⟩ := Kd.R_slice ho; subst env4; rw [List.length_append, List.length_singleton] at ho; have HO19 := (B_gr HH.out.hO HH.out.cO hg HH.out.hB.1 (by decide)).1; have HC3 := Aside0.mk (B_gr BL.out HC.out hg HH.out.hB.1 (by decide)); have HP := HH.out.putB hg ho; have HB2 := Aside0.mk hb; clear ho hb hg hat hco_ hfo_; have hs19 : wj.cell? ⟨gO, 3, none⟩ = some (.slice AB s'.B.length cB) := (blk_cell HO19 3).trans rfl; have hf19 := blk_frozen HO19 3))
         clear hs19 hf19
         have hne_ : gl ≠ gO := fun e => by have a1 := HC3.out.2; have a2 := HP.cO; rw [e] at a1; omega
         have HB3 := Aside0.mk (below_set (g := gO) (j := 3) (v := (.slice Anv4 (s'.B.length + 1) cnv4)) HB2.out HP.bO)
         have BL2 := Aside0.mk (put_far HC3.out.1 hne_ 3 (.slice Anv4 (s'.B.length + 1) cnv4))
         have HCN := HC3.out.2
         clear HH BL HB HC HC3 HB2 HO19
         generalize hwc : wj.setCell ⟨gO, 3, none⟩ (.slice Anv4 (s'.B.length + 1) cnv4) = wk at HP HB3 BL2 ⊢
         clear hwc
         obtain ⟨colwk, hh_, hc_⟩ : ∃ c_, OrbH w.heap.size c_ wk gO gM n' _ _ _ _ _ _ _ ∧ c_ gl = 8 := ⟨_, HP, HCN⟩
         have HH := Aside0.mk hh_; have HC := Aside0.mk hc_; have BL := BL2; have HB := HB3
         clear hh_ hc_ BL2 HB3 HP HCN hne_
         generalize hcc : colwk = colc at HH HC
         clear hcc
         go_upto_region 21 with (fail)
         replace HH := Aside0.mk (HH.out.below (below_drew1 (Below.refl _ _)))
         replace BL := Aside0.mk (blk_drew BL.out)
         replace HB := Aside0.mk (below_drew1 HB.out)
         refine start_ (n := 15) (S := fun w' => w'.cell? ⟨gO, 4, none⟩ = some (.map (some gM)) ∧ w'.heap[gM]? = some (mapO n' vT' vS')) (ds := [14]) (bl_ 15 0) (by kernel_rfl) rfl (by kernel_rfl) ⟨(blk_cell HH.out.hO 4).trans rfl, HH.out.hM⟩ (fun hHeld => ?_)
         refine with_tabW orb_tab21 orb_bits21 (fun HT_ HW_ => ?_)
         generalize wk.drew = wl at HH BL HB hHeld ⊢
         refine pu_ 0 (some 118) (bl_ 15 1) HT_ ?_
         refine pu_ 1 (some 119) (bl_ 15 3) HT_ ?_
         refine pu_ 2 (some 120) (bl_ 15 7) HT_ ?_
         refine ta_ 3 (some 121) (bl_ 15 15) HT_ HW_ hHeld ?_
         refine pu_ 4 (some 122) (bl_ 15 31) HT_ ?_
         refine pu_ 5 (some 123) (bl_ 15 63) HT_ ?_
         refine pu_ 6 (some 124) (bl_ 15 127) HT_ ?_
         refine pu_ 7 (some 125) (bl_ 15 255) HT_ ?_
         refine ta_ 8 (some 126) (bl_ 15 511) HT_ HW_ hHeld ?_
         refine pu_ 9 (some 127) (bl_ 15 1023) HT_ ?_
         have hlk : ∀ w', w'.heap[gM]? = some (mapO n' vT' vS') → (Instr.lookup 67 (.map (some gM)) (.int .u8 84) false).run Try.prog w' = .ok vT' w' := fun w' h_ => by
          have hn := hn0.out
          have := look_T h_ (by omega)
          rw [HH.out.look.1] at this
          exact this
         refine ta_ 10 (some 128) (v := vT') (bl_ 15 2047) HT_ HW_ hHeld ?_ (hy := Or.inl ⟨by rfl, fun w' hs_ => ?_⟩)
         rotate_left
         ·have hq := hlk w' hs_.2
          go_simp
         clear hlk
         refine pu_ 11 (some 129) (bl_ 15 4095) HT_ ?_
         refine on_ 12 (some 130) (bl_ 15 8191) HT_ (fun K hK => ?_)
         refine value_ (w1 := ?_) (v := ?_) (by rfl) rfl ?_ ?_
         rotate_left 2
         ·go_simp
          constructor
          ·rfl
          ·rfl
         refine hK.out _ _ ⟨((below_alloc (Below.refl _ _) _).cell (World.block_lt_of_cell? _ _ hHeld.1)).trans hHeld.1, blk_alloc hHeld.2 _⟩ (fun hHeld => ?_)
         clear hK K
         refine no_ (some 130) ?_
         refine on_ 13 (some 131) (bl_ 15 16383) HT_ (fun K hK => ?_)
         refine Kd.R_append_step (Kd.int .i64) (w0 := w) w.heap.size (by rfl) (.tmp 128) (.tmp 130) 23 3 (.int .i64 0) 8 rfl Try.underlying23 info3 rfl (by decide) (by omega) vT' s'.T ((s'.L.length : Int)) [.int .i64 ((s'.L.length : Int))] (fun k_ => rcl wl.heap.size colc 4 k_ = 4) (fun _ => False) rfl rfl rfl (fun _ hk => hk.elim) (fun k_ hk => rcl_new hk) (R_col HH.out.hT (fun k_ hk => rcl_old hk)) HB.out HB.out.size (by have := LN.out; omega) ?_
         intro v1 wlb ho hb hg hat
         have HP := HH.out.putT hg ho
         have HM := Aside0.mk HP.1
         have HO19 := (B_gr HH.out.hO HH.out.cO hg HH.out.hT.1 (by decide)).1
         have HC3 := Aside0.mk (B_gr BL.out HC.out hg HH.out.hT.1 (by decide))
         replace HH := Aside0.mk HP.2
         clear HP
         have HB2 := Aside0.mk hb
         refine hK.out _ _ ⟨(blk_cell HO19 4).trans rfl, HM.out⟩ (fun hHeld => ?_)
         clear hK K ho hb hg hat HO19
         refine no_ (some 131) ?_
         refine last_ (i := 14) (N := none) (bl_ 15 32767) rfl rfl (one_of HT_.out (by kernel_rfl)) (by decide) (fun K hK => ?_)
         have hput : (Instr.mapUpdate 67 (.map (some gM)) (.int .u8 84) v1).run Try.prog wlb = .ok () (setMap wlb gM (max n' 1) v1 vS') := put_T HM.out hn0.out v1
         refine skip_ (w1 := setMap wlb gM (max n' 1) v1 vS') (by rfl) rfl ?_ ?_
         ·go_simp
         refine hK.out _ _ ?_
         clear hK K hput
         refine done_ (done_of HT_.out (by kernel_rfl)) ?_
         try go_wp2
         have hgm : gl ≠ gM := fun e => by have a1 := HC3.out.2; have a2 := HH.out.cM; rw [e] at a1; omega
         have BL2 := Aside0.mk ((setMap_far (n := max n' 1) v1 vS' hgm).trans HC3.out.1)
         have HB3 := Aside0.mk (setMap_below (n := max n' 1) v1 vS' HB2.out HH.out.bM)
         go_roundg 1
         case measure => have := HG.out; omega
         case rel => exact ⟨1, max n' 1, _, _, _, _, _, _, _, _, (by first | rfl | (simp; done) | (simp [*]; done)), ⟨by omega⟩, ⟨by omega⟩, HT, ⟨⟨fun e => absurd e (by decide), fun _ => by have := hn0.out; omega, fun e => absurd e (by decide)⟩⟩, ⟨HC3.out.2⟩, BL2, HH, HB3⟩
       ·have H := HS.out
        clear HS
        rw [if_neg hj0] at H
        have hjb := decide_eq_false hj0
        have hlen := cp_ H
        replace H := Option.some.inj (ca_ H)
        subst H
        rw [if_pos rfl, if_pos rfl] at HT
        have LN := Aside0.mk hlen
        clear hlen SL13 Y0 Y1 BX NE GX
        generalize hcc : rcl w13.heap.size col' 0 = colc at HH HC
        clear hcc
        go_upto_region 21 with (fail)
        replace HH := Aside0.mk (HH.out.below (below_drew1 (Below.refl _ _)))
        replace BL := Aside0.mk (blk_drew BL.out)
        replace HB := Aside0.mk (below_drew1 HB.out)
        refine start_ (n := 15) (S := fun w' => w'.cell? ⟨gO, 4, none⟩ = some (.map (some gM)) ∧ w'.heap[gM]? = some (mapO n' vT' vS')) (ds := [14]) (bl_ 15 0) (by kernel_rfl) rfl (by kernel_rfl) ⟨(blk_cell HH.out.hO 4).trans rfl, HH.out.hM⟩ (fun hHeld => ?_)
        refine with_tabW orb_tab21 orb_bits21 (fun HT_ HW_ => ?_)
        generalize w17.drew = w18 at HH BL HB hHeld ⊢
        refine pu_ 0 (some 118) (bl_ 15 1) HT_ ?_
        refine pu_ 1 (some 119) (bl_ 15 3) HT_ ?_
        refine pu_ 2 (some 120) (bl_ 15 7) HT_ ?_
        refine ta_ 3 (some 121) (bl_ 15 15) HT_ HW_ hHeld ?_
        refine pu_ 4 (some 122) (bl_ 15 31) HT_ ?_
        refine pu_ 5 (some 123) (bl_ 15 63) HT_ ?_
        refine pu_ 6 (some 124) (bl_ 15 127) HT_ ?_
        refine pu_ 7 (some 125) (bl_ 15 255) HT_ ?_
        refine ta_ 8 (some 126) (bl_ 15 511) HT_ HW_ hHeld ?_
        refine pu_ 9 (some 127) (bl_ 15 1023) HT_ ?_
        have hlk : ∀ w', w'.heap[gM]? = some (mapO n' vT' vS') → (Instr.lookup 67 (.map (some gM)) (.int .u8 84) false).run Try.prog w' = .ok vT' w' := fun w' h_ => by
         have hn := hn0.out
         have := look_T h_ (by omega)
         rw [HH.out.look.1] at this
         exact this
        refine ta_ 10 (some 128) (v := vT') (bl_ 15 2047) HT_ HW_ hHeld ?_ (hy := Or.inl ⟨by rfl, fun w' hs_ => ?_⟩)
        rotate_left
        ·have hq := hlk w' hs_.2
         go_simp
        clear hlk
        refine pu_ 11 (some 129) (bl_ 15 4095) HT_ ?_
        refine on_ 12 (some 130) (bl_ 15 8191) HT_ (fun K hK => ?_)
        refine value_ (w1 := ?_) (v := ?_) (by rfl) rfl ?_ ?_
        rotate_left 2
        ·go_simp
         constructor
         ·rfl
         ·rfl
        refine hK.out _ _ ⟨((below_alloc (Below.refl _ _) _).cell (World.block_lt_of_cell? _ _ hHeld.1)).trans hHeld.1, blk_alloc hHeld.2 _⟩ (fun hHeld => ?_)
        clear hK K
        refine no_ (some 130) ?_
        refine on_ 13 (some 131) (bl_ 15 16383) HT_ (fun K hK => ?_)
        refine Kd.R_append_step (Kd.int .i64) (w0 := w) w.heap.size (by rfl) (.tmp 128) (.tmp 130) 23 3 (.int .i64 0) 8 rfl Try.underlying23 info3 rfl (by decide) (by omega) vT' s'.T (j) [.int .i64 (j)] (fun k_ => rcl w18.heap.size colc 4 k_ = 4) (fun _ => False) rfl rfl rfl (fun _ hk => hk.elim) (fun k_ hk => rcl_new hk) (R_col HH.out.hT (fun k_ hk => rcl_old hk)) HB.out HB.out.size (by have := LN.out; omega) ?_
        intro v1 w18b ho hb hg hat
        have HP := HH.out.putT hg ho
        have HM := Aside0.mk HP.1
        have HO19 := (B_gr HH.out.hO HH.out.cO hg HH.out.hT.1 (by decide)).1
        have HC3 := Aside0.mk (B_gr BL.out HC.out hg HH.out.hT.1 (by decide))
        replace HH := Aside0.mk HP.2
        clear HP
        have HB2 := Aside0.mk hb
        refine hK.out _ _ ⟨(blk_cell HO19 4).trans rfl, HM.out⟩ (fun hHeld => ?_)
        clear hK K ho hb hg hat HO19
        refine no_ (some 131) ?_
        refine last_ (i := 14) (N := none) (bl_ 15 32767) rfl rfl (one_of HT_.out (by kernel_rfl)) (by decide) (fun K hK => ?_)
        have hput : (Instr.mapUpdate 67 (.map (some gM)) (.int .u8 84) v1).run Try.prog w18b = .ok () (setMap w18b gM (max n' 1) v1 vS') := put_T HM.out hn0.out v1
        refine skip_ (w1 := setMap w18b gM (max n' 1) v1 vS') (by rfl) rfl ?_ ?_
        ·go_simp
        refine hK.out _ _ ?_
        clear hK K hput
        refine done_ (done_of HT_.out (by kernel_rfl)) ?_
        try go_wp2
        have hgm : gl ≠ gM := fun e => by have a1 := HC3.out.2; have a2 := HH.out.cM; rw [e] at a1; omega
        have BL2 := Aside0.mk ((setMap_far (n := max n' 1) v1 vS' hgm).trans HC3.out.1)
        have HB3 := Aside0.mk (setMap_below (n := max n' 1) v1 vS' HB2.out HH.out.bM)
        go_roundg 1
        case measure => have := HG.out; omega
        case rel => exact ⟨1, max n' 1, _, _, _, _, _, _, _, _, (by first | rfl | (simp; done) | (simp [*]; done)), ⟨by omega⟩, ⟨by omega⟩, HT, ⟨⟨fun e => absurd e (by decide), fun _ => by have := hn0.out; omega, fun e => absurd e (by decide)⟩⟩, ⟨HC3.out.2⟩, BL2, HH, HB3⟩
      ·skip
       have hn0 := Aside0.mk (HN.out.2.1 rfl)
       have H := AZ.out
       clear AZ
       change innerO k1 x7 (83 :: []) s' = some z at H
       simp only [innerO] at H
       obtain ⟨zz, AS, H⟩ := bi_ H
       have HT := Aside0.mk H
       have H := AS.out
       clear AS
       unfold stpO at H
       have hi0 := cp_ H
       replace H := ca_ H
       have hi1 := cp_ H
       replace H := ca_ H
       obtain ⟨⟨x1, x2⟩, AX, H⟩ := bi_ H
       obtain ⟨⟨y1', y2', yb⟩, AY, H⟩ := bi_ H
       obtain ⟨j, AJ, H⟩ := bi_ H
       dsimp only at H AY AJ
       have HS := Aside0.mk H
       clear H
       obtain ⟨adx, Ax0, cx0, Ax1, cx1, ex, hx0, hx1, hlx0, hix0, hlx1, hix1⟩ := at_T25 (Kd.S_reads' HH.out.hL).2.2 x7 hi0 hi1
       cases ex
       have X0 := Aside0.mk hix0; have X1 := Aside0.mk hix1; have LX0 := Aside0.mk hlx0; have LX1 := Aside0.mk hlx1
       clear hix0 hix1 hlx0 hlx1
       have ti0 := eq_true hi0
       have ti1 := eq_true hi1
       have td1 := decide_eq_true hi1
       go_upto_region 12 with (first | ((with_reducible refine gate_callee (f := 63) rfl ?_); refine gL_ (some 52) Try.func63 #[.agg #[.slice Ax0 (rd_T25 s'.L x7).f0.length cx0, .slice Ax1 (rd_T25 s'.L x7).f1.length cx1], .int .u8 83] rfl qa_ ?_; (with_reducible refine (Z11.calls k1 _ _ (rd_T25 s'.L x7).f0 _ _ (rd_T25 s'.L x7).f1 83 x1 x2 _ X0.out LX0.out X1.out LX1.out AX.out).mono ?_); rintro e w13 ⟨v0, v1, rfl, ho0, ho1, hb⟩; refine ⟨_, rfl, ?_⟩; replace HH := Aside0.mk (HH.out.below hb); replace BL := bb_ BL hb; replace HB := b1_ hb; clear hb; obtain ⟨Al0, cl0, el0⟩ := Kd.R_slice ho0; subst el0; obtain ⟨Al1, cl1, el1⟩ := Kd.R_slice ho1; subst el1; have LT0 := Aside0.mk (Kd.R_reads' ho0).2; have LT1 := Aside0.mk (Kd.R_reads' ho1).2; clear ho0 ho1) | ((with_reducible refine gate_callee (f := 28) rfl ?_); refine gL_ (some 53) Try.func28 #[.agg #[.slice Al0 x1.length cl0, .slice Al1 x2.length cl1]] rfl qa_ ?_; (with_reducible refine (Z41.calls k1 _ _ x1 _ _ x2 y1' y2' yb _ LT0.out.2 LT0.out.1 LT1.out.2 LT1.out.1 AY.out).mono ?_); rintro e w14 ⟨v0, v1, rfl, ho0, ho1, hb⟩; refine ⟨_, rfl, ?_⟩; have ZC := Aside0.mk (below_size hB_ : w.heap.size ≤ w13.heap.size); have ZD := Aside0.mk hb.size; have SL13 := Aside0.mk (Kd.S_below (Kd.S_mono (ok' := fun k_ => col' k_ = 0 ∧ k_ < w13.heap.size) (Kd.S_bound HH.out.hL) (fun k_ hk_ => ⟨hk_.1, hk_.2.2.1⟩)) hb); replace HH := Aside0.mk ((HH.out.recol (col' := rcl w13.heap.size col' 0) (fun k hk => rcl_old hk)).below hb); replace HC := Aside0.mk ((rcl_old (blk_lt BL.out)).trans HC.out : rcl w13.heap.size col' 0 gl = 8); replace BL := bb_ BL hb; replace HB := b1_ hb; clear hb; obtain ⟨Ay0, cy0, ey0⟩ := Kd.R_slice ho0; subst ey0; obtain ⟨Ay1, cy1, ey1⟩ := Kd.R_slice ho1; subst ey1; have Y0 := Aside0.mk ho0; have Y1 := Aside0.mk ho1; clear ho0 ho1) | ((with_reducible refine gate_dst (N := 10) rfl ?_); refine bx_ 10 #[.slice none 0 0, .slice none 0 0] 25 ?_; intro gx hg w15 hbox hb; have GX := Aside0.mk (show w14.heap.size ≤ gx from Nat.le_of_eq hg.symm); have BX := Aside0.mk hbox; have B3 := Aside0.mk hb; clear hb hbox hg; obtain ⟨hcf0, hcf1, hff0, hff1⟩ := c2_ BX))
       obtain ⟨hbox, hkp, hB2⟩ := box_store (w0 := w14) BX.out (.slice Ay0 y1'.length cy0) (.slice Ay1 y2'.length cy1) B3.out GX.out
       generalize hw : ((w15.setCell ⟨gx, 0, none⟩ (.slice Ay0 y1'.length cy0)).setCell ⟨gx, 1, none⟩ (.slice Ay1 y2'.length cy1)) = w16 at hbox hkp hB2 ⊢
       clear hw hcf0 hcf1 hff0 hff1 hcl0 hcl1 hfl0 hfl1 hco0 hfo0 hx0 hx1 X0 X1 LX0 LX1 LT0 LT1
       have NE := Aside0.mk (show NeRow (.slice Ay0 y1'.length cy0) (.slice Ay1 y2'.length cy1) from fun k_ e1_ e2_ => (Y0.out.1 k_ e1_) e2_.symm)
       replace HH := Aside0.mk (HH.out.below hB2)
       replace BL := Aside0.mk (blk_below BL.out hB2)
       replace Y0 := Aside0.mk (Kd.R_below (Kd.R_bound Y0.out) hB2)
       replace Y1 := Aside0.mk (Kd.R_below (Kd.R_bound Y1.out) hB2)
       replace SL13 := Aside0.mk (Kd.S_below SL13.out hB2)
       replace HB := Aside0.mk (below_step HB.out hB2)
       replace BX := Aside0.mk (show w16.heap[gx]? = some (.cells #[.slice Ay0 y1'.length cy0, .slice Ay1 y2'.length cy1] 25 (0, 0)) from hbox)
       have ZE := Aside0.mk hB2.size
       clear hbox hkp hB2 B3
       obtain ⟨hcx0, hcx1, hfx0, hfx1⟩ := c2_ BX
       have hLr := (Kd.S_reads' HH.out.hL).2
       have RL := Aside0.mk hLr
       clear hLr
       go_upto_region 13 with (first | ((with_reducible refine gate_callee (f := 72) rfl ?_); refine gL_ (some 58) Try.func72 #[.pointer (some ⟨gO, 0, none⟩), .agg #[.slice Ay0 y1'.length cy0, .slice Ay1 y2'.length cy1]] rfl qa_ ?_; (with_reducible refine (index_calls k1 gO _ _ s'.L _ _ _ _ _ _ y1' _ _ y2' j _ RL.out.2 RL.out.1 (Kd.R_reads' Y0.out).2.2 (Kd.R_reads' Y0.out).2.1 (Kd.R_reads' Y1.out).2.2 (Kd.R_reads' Y1.out).2.1 HH.out.hO AJ.out).mono ?_); rintro e w17 ⟨rfl, hb⟩; refine ⟨_, rfl, ?_⟩; have ZF := Aside0.mk hb.size; replace HH := Aside0.mk (HH.out.below hb); replace BL := bb_ BL hb; replace BX := bb_ BX hb; replace Y0 := Aside0.mk (Kd.R_below Y0.out hb); replace Y1 := Aside0.mk (Kd.R_below Y1.out hb); replace SL13 := Aside0.mk (Kd.S_below SL13.out hb); replace HB := b1_ hb; clear hb))
       clear hcx0 hcx1 hfx0 hfx1 RL
       have ZW := Aside0.mk (show w13.heap.size ≤ w17.heap.size from Nat.le_trans ZD.out (Nat.le_trans ZE.out ZF.out))
       clear ZD ZE ZF
       by_cases hj0 : j < 0
       ·have H := HS.out
        clear HS
        rw [if_pos hj0] at H
        have hjb := decide_eq_true hj0
        have hco0 : w17.cell? ⟨gO, 0, none⟩ = some (.slice (some adx) s'.L.length cL') := (blk_cell HH.out.hO 0).trans rfl
        have hfo0 := blk_frozen HH.out.hO 0
        by_cases hq5 : (s'.L.length : Int) = 120
        ·rw [if_pos hq5] at H
         obtain rfl := Option.some.inj H
         clear H
         have hzn : z = none := (Option.some.inj HT.out).symm
         subst hzn
         have hRn : R = none := (Option.some.inj HR.out).symm
         subst hRn
         have e5b : ((s'.L.length : Int) == 120) = true := beq_iff_eq.mpr hq5
         clear hq5
         go_wp2
         go_ret2
         exact ⟨qb_, hB_⟩
        ·rw [if_neg hq5] at H
         have e5b : ((s'.L.length : Int) == 120) = false := beq_eq_false_iff_ne.mpr hq5
         clear hq5
         have hlen := cp_ H
         replace H := ca_ H
         have hiW := cp_ H
         replace H := ca_ H
         have hsz := cp_ H
         replace H := Option.some.inj (ca_ H)
         subst H
         rw [if_neg (by decide), if_neg (by decide)] at HT
         have LN := Aside0.mk hlen
         have LS := Aside0.mk hsz
         clear hlen hsz
         go_upto_region 17 with (fail)
         clear hco0 hfo0 e5b
         replace HH := Aside0.mk (HH.out.below (below_drew1 (Below.refl _ _)))
         replace BL := Aside0.mk (blk_drew BL.out)
         replace BX := Aside0.mk (blk_drew BX.out)
         replace HB := Aside0.mk (below_drew1 HB.out)
         replace Y0 := Aside0.mk (Kd.R_bound (Kd.R_drew Y0.out))
         replace Y1 := Aside0.mk (Kd.R_bound (Kd.R_drew Y1.out))
         replace SL13 := Aside0.mk (Kd.S_drew SL13.out)
         replace ZW := Aside0.mk (show w13.heap.size ≤ w17.drew.heap.size from ZW.out)
         refine start_ (n := 11) (S := fun w' => w'.cell? ⟨gO, 0, none⟩ = some (.slice (some adx) s'.L.length cL') ∧ w'.cell? ⟨gx, 0, none⟩ = some (.slice Ay0 y1'.length cy0) ∧ w'.cell? ⟨gx, 1, none⟩ = some (.slice Ay1 y2'.length cy1)) (ds := [7, 10]) (bl_ 11 0) (by kernel_rfl) rfl (by kernel_rfl) ⟨(blk_cell HH.out.hO 0).trans rfl, (blk_cell BX.out 0).trans rfl, (blk_cell BX.out 1).trans rfl⟩ (fun hHeld => ?_)
         refine with_tabW orb_tab17 orb_bits17 (fun HT_ HW_ => ?_)
         generalize w17.drew = wa at HH BL BX HB Y0 Y1 SL13 ZW hHeld ⊢
         refine pu_ 0 (some 68) (bl_ 11 1) HT_ ?_
         refine pu_ 1 (some 69) (bl_ 11 3) HT_ ?_
         refine pu_ 2 (some 70) (bl_ 11 7) HT_ ?_
         refine pu_ 3 (some 71) (bl_ 11 15) HT_ ?_
         refine ta_ 4 (some 72) (bl_ 11 31) HT_ HW_ hHeld ?_
         refine ta_ 5 (some 73) (bl_ 11 63) HT_ HW_ hHeld ?_
         refine on_ 6 (some 74) (bl_ 11 127) HT_ (fun K hK => ?_)
         refine value_ (w1 := ?_) (v := ?_) (by rfl) rfl ?_ ?_
         rotate_left 2
         ·go_simp
          constructor
          ·rfl
          ·rfl
         refine hK.out _ _ ⟨((below_alloc (Below.refl _ _) _).cell (World.block_lt_of_cell? _ _ hHeld.1)).trans hHeld.1, ((below_alloc (Below.refl _ _) _).cell (World.block_lt_of_cell? _ _ hHeld.2.1)).trans hHeld.2.1, ((below_alloc (Below.refl _ _) _).cell (World.block_lt_of_cell? _ _ hHeld.2.2)).trans hHeld.2.2⟩ (fun hHeld => ?_)
         clear hK K
         refine no_ (some 74) ?_
         refine last_ (i := 7) (N := some 75) (bl_ 11 255) rfl rfl (one_of HT_.out (by kernel_rfl)) (by decide) (fun K hK => ?_)
         refine Kd.S_append_step k25 (w0 := w) w.heap.size (by rfl) (.tmp 72) (.tmp 74) 36 25 (.agg #[(.slice none 0 0), (.slice none 0 0)]) 48 rfl Try.underlying36 info25 rfl (by decide) (by omega) (.slice (some adx) s'.L.length cL') s'.L (⟨y1', y2'⟩ : S25) [.slice Ay0 y1'.length cy0, .slice Ay1 y2'.length cy1] (fun k_ => rcl wa.heap.size (rcl w13.heap.size col' 0) 0 k_ = 0) (fun k_ => w13.heap.size ≤ k_ ∧ k_ < wa.heap.size) rfl rfl ?aP ?aQ (fun k_ hk => rcl_new hk) ?aO HB.out HB.out.size (by have := LN.out; omega) ?_
         case aP => exact k25_mkM _ _ _ (⟨y1', y2'⟩ : S25) (Kd.R_mono (Kd.R_lower Y0.out ZC.out) (fun k_ hk => ⟨hk.2.1, hk.2.2.1⟩)) (Kd.R_mono (Kd.R_lower Y1.out ZC.out) (fun k_ hk => ⟨hk.2.1, hk.2.2.1⟩)) NE.out
         case aQ => exact fun k_ hk => ⟨(rcl_old hk.2).trans (rcl_new hk.1), fun e => by have := ((Kd.S_R SL13.out).1 k_ e.symm).2; have := hk.1; omega⟩
         case aO => exact Kd.S_mono SL13.out (fun k_ hk => ⟨(rcl_old (Nat.lt_of_lt_of_le hk.2 ZW.out)).trans ((rcl_old hk.2).trans hk.1), fun h_ => by have := hk.2; have := h_.1; omega⟩)
         intro v1 wb ho hb hg hat
         obtain ⟨An1, cn1, en1⟩ := Kd.S_slice ho
         subst en1
         have HO19 := (B_gr HH.out.hO HH.out.cO hg (Kd.S_R HH.out.hL).1 (by decide)).1
         have HC3 := Aside0.mk (B_gr BL.out HC.out hg (Kd.S_R HH.out.hL).1 (by decide))
         have HP := HH.out.putL hg ho
         have HB2 := Aside0.mk hb
         refine hK.out _ _ ?_
         clear hK K ho hb hg hat SL13 Y0 Y1 BX NE GX
         refine no_ (some 75) ?_
         refine pu_ 8 (some 76) (bl_ 11 511) HT_ ?_
         refine pu_ 9 (some 77) (bl_ 11 1023) HT_ ?_
         refine last_ (i := 10) (N := none) (bl_ 11 2047) rfl rfl (one_of HT_.out (by kernel_rfl)) (by decide) (fun K hK => ?_)
         have hs19 : wb.cell? ⟨gO, 0, none⟩ = some (.slice (some adx) s'.L.length cL') := (blk_cell HO19 0).trans rfl
         have hf19 := blk_frozen HO19 0
         refine skip_ (w1 := wb.setCell ⟨gO, 0, none⟩ (.slice An1 (s'.L ++ [(⟨y1', y2'⟩ : S25)]).length cn1)) (by rfl) rfl ?_ ?_
         ·go_simp
         refine hK.out _ _ ?_
         clear hK K hs19 hf19
         refine done_ (done_of HT_.out (by kernel_rfl)) ?_
         have hne_ : gl ≠ gO := fun e => by have a1 := HC3.out.2; have a2 := HP.cO; rw [e] at a1; omega
         have HB3 := Aside0.mk (below_set (g := gO) (j := 0) (v := (.slice An1 (s'.L ++ [(⟨y1', y2'⟩ : S25)]).length cn1)) HB2.out HP.bO)
         have BL2 := Aside0.mk (put_far HC3.out.1 hne_ 0 (.slice An1 (s'.L ++ [(⟨y1', y2'⟩ : S25)]).length cn1))
         have HCN := HC3.out.2
         clear HH BL HB HC HC3 HB2 HO19
         generalize hwc : wb.setCell ⟨gO, 0, none⟩ (.slice An1 (s'.L ++ [(⟨y1', y2'⟩ : S25)]).length cn1) = wc at HP HB3 BL2 ⊢
         clear hwc
         obtain ⟨colwc, hh_, hc_⟩ : ∃ c_, OrbH w.heap.size c_ wc gO gM n' _ _ _ _ _ _ _ ∧ c_ gl = 8 := ⟨_, HP, HCN⟩
         have HH := Aside0.mk hh_; have HC := Aside0.mk hc_; have BL := BL2; have HB := HB3
         clear hh_ hc_ BL2 HB3 HP HCN hne_
         obtain ⟨AW, cW, eW⟩ := Kd.R_slice HH.out.hW
         subst eW
         go_upto_region 18 with (fail)
         replace HH := Aside0.mk (HH.out.below (below_drew1 (Below.refl _ _)))
         replace BL := Aside0.mk (blk_drew BL.out)
         replace HB := Aside0.mk (below_drew1 HB.out)
         obtain ⟨adw, ew, hxw⟩ := Kd.at_string (Kd.R_reads' HH.out.hW).2.2 x7 hi0 hiW
         cases ew
         have tw1 := eq_true hiW
         have tw2 := decide_eq_true hiW
         refine start_ (n := 21) (S := fun w' => w'.cell? ⟨gO, 1, none⟩ = some (.slice (some adw) s'.W.length cW) ∧ w'.cell? (adw.add (x7).toNat) = some (.string (rdOf ByteArray.empty s'.W x7))) (ds := [17, 20]) (bl_ 21 0) (by kernel_rfl) rfl (by kernel_rfl) ⟨(blk_cell HH.out.hO 1).trans rfl, hxw⟩ (fun hHeld => ?_)
         refine with_tabW orb_tab18 orb_bits18 (fun HT_ HW_ => ?_)
         clear hxw
         generalize wc.drew = wd at HH BL HB hHeld ⊢
         refine pu_ 0 (some 78) (bl_ 21 1) HT_ ?_
         refine pu_ 1 (some 79) (bl_ 21 3) HT_ ?_
         refine pu_ 2 (some 80) (bl_ 21 7) HT_ ?_
         refine pu_ 3 (some 81) (bl_ 21 15) HT_ ?_
         refine ta_ 4 (some 82) (bl_ 21 31) HT_ HW_ hHeld ?_
         refine pu_ 5 (some 83) (bl_ 21 63) HT_ ?_
         refine pu_ 6 (some 84) (bl_ 21 127) HT_ ?_
         refine pu_ 7 (some 85) (bl_ 21 255) HT_ ?_
         refine ta_ 8 (some 86) (bl_ 21 511) HT_ HW_ hHeld ?_
         refine pu_ 9 (some 87) (bl_ 21 1023) HT_ ?_
         refine pu_ 10 (some 88) (bl_ 21 2047) HT_ ?_
         refine ta_ 11 (some 89) (bl_ 21 4095) HT_ HW_ hHeld ?_
         refine pu_ 12 (some 90) (bl_ 21 8191) HT_ ?_
         refine on_ 13 (some 91) (bl_ 21 16383) HT_ (fun K hK => ?_)
         refine Kd.R_lit_step (Kd.int .u8) _ 5 ?hg (N := 91) ?hd (xs := ([83] : List Int)) (inner := [.int .u8 83]) (ok := fun _ => True) (okp := fun _ => True) ?hr ?hp (fun _ hk => hk) trivial (Below.refl _ _) (Nat.le_refl _) (by simp) ?_; (case hd => rfl); (case hg => rfl); (case hr => first | (go_simp; done) | (go_simp; rfl)); (case hp => exact (Reps.one (show Kd.M (Kd.int .u8) _ _ _ 83 [.int .u8 83] from rfl) (Reps.none _ _)))
         intro vq we hoq hb hg_ hnew_
         have hS1_ := (hb.cell (World.block_lt_of_cell? _ _ hHeld.1)).trans hHeld.1
         have hS2_ := (hb.cell (World.block_lt_of_cell? _ _ hHeld.2)).trans hHeld.2
         replace HH := Aside0.mk (HH.out.below hb)
         replace BL := bb_ BL hb
         replace HB := b1_ hb
         have HOq := Aside0.mk hoq
         clear hg_ hnew_ hb hoq
         refine hK.out _ _ ⟨hS1_, hS2_⟩ (fun hHeld => ?_)
         clear hK K hS1_ hS2_
         refine no_ (some 91) ?_
         refine on_ 14 (some 92) (bl_ 21 32767) HT_ (fun K hK => ?_)
         have hcv47 := own_string (P := Try.prog) Try.underlying22 Try.underlying5 Try.underlying9 (Kd.own_of_R HOq.out)
         refine value_ (w1 := ?_) (v := ?_) (by rfl) rfl ?_ ?_
         rotate_left 2
         ·go_simp
          constructor
          ·rfl
          ·rfl
         clear hcv47 HOq
         refine hK.out _ _ hHeld (fun hHeld => ?_)
         clear hK K
         refine no_ (some 92) ?_
         have hs1_ : (strOfNums [(83 : Int)]).size = 1 := by decide +kernel
         have tw3 : (9223372036854775807 < (rdOf ByteArray.empty s'.W x7).size + (strOfNums [(83 : Int)]).size) = False := eq_false (by rw [hs1_]; have := LS.out; omega)
         clear hs1_
         refine pu_ 15 (some 93) (bl_ 21 65535) HT_ ?_
         clear tw3
         refine on_ 16 (some 94) (bl_ 21 131071) HT_ (fun K hK => ?_)
         refine value_ (w1 := ?_) (v := ?_) (by rfl) rfl ?_ ?_
         rotate_left 2
         ·go_simp
          constructor
          ·rfl
          ·rfl
         refine hK.out _ _ ⟨((below_alloc (Below.refl _ _) _).cell (World.block_lt_of_cell? _ _ hHeld.1)).trans hHeld.1, ((below_alloc (Below.refl _ _) _).cell (World.block_lt_of_cell? _ _ hHeld.2)).trans hHeld.2⟩ (fun hHeld => ?_)
         clear hK K
         refine no_ (some 94) ?_
         refine last_ (i := 17) (N := some 95) (bl_ 21 262143) rfl rfl (one_of HT_.out (by kernel_rfl)) (by decide) (fun K hK => ?_)
         refine Kd.R_append_step Kd.string (w0 := w) w.heap.size (by rfl) (.tmp 82) (.tmp 94) 53 9 (.string ⟨#[]⟩) 16 rfl Try.underlying53 info9 rfl (by decide) (by omega) (.slice (some adw) s'.W.length cW) s'.W ((rdOf ByteArray.empty s'.W x7) ++ (strOfNums [83])) [.string ((rdOf ByteArray.empty s'.W x7) ++ (strOfNums [83]))] (fun k_ => rcl we.heap.size colwc 1 k_ = 1) (fun _ => False) rfl rfl rfl (fun _ hk => hk.elim) (fun k_ hk => rcl_new hk) (R_col HH.out.hW (fun k_ hk => rcl_old hk)) HB.out HB.out.size (by have := LN.out; omega) ?_
         intro v2 wf ho hb hg hat
         obtain ⟨An2, cn2, en2⟩ := Kd.R_slice ho
         subst en2
         have HO19 := (B_gr HH.out.hO HH.out.cO hg HH.out.hW.1 (by decide)).1
         have HC3 := Aside0.mk (B_gr BL.out HC.out hg HH.out.hW.1 (by decide))
         have HP := HH.out.putW hg ho
         have HB2 := Aside0.mk hb
         refine hK.out _ _ ?_
         clear hK K ho hb hg hat
         refine no_ (some 95) ?_
         refine pu_ 18 (some 96) (bl_ 21 524287) HT_ ?_
         refine pu_ 19 (some 97) (bl_ 21 1048575) HT_ ?_
         refine last_ (i := 20) (N := none) (bl_ 21 2097151) rfl rfl (one_of HT_.out (by kernel_rfl)) (by decide) (fun K hK => ?_)
         have hs19 : wf.cell? ⟨gO, 1, none⟩ = some (.slice (some adw) s'.W.length cW) := (blk_cell HO19 1).trans rfl
         have hf19 := blk_frozen HO19 1
         refine skip_ (w1 := wf.setCell ⟨gO, 1, none⟩ (.slice An2 (s'.W ++ [(rdOf ByteArray.empty s'.W x7) ++ (strOfNums [83])]).length cn2)) (by rfl) rfl ?_ ?_
         ·go_simp
         refine hK.out _ _ ?_
         clear hK K hs19 hf19
         refine done_ (done_of HT_.out (by kernel_rfl)) ?_
         have hne_ : gl ≠ gO := fun e => by have a1 := HC3.out.2; have a2 := HP.cO; rw [e] at a1; omega
         have HB3 := Aside0.mk (below_set (g := gO) (j := 1) (v := (.slice An2 (s'.W ++ [(rdOf ByteArray.empty s'.W x7) ++ (strOfNums [83])]).length cn2)) HB2.out HP.bO)
         have BL2 := Aside0.mk (put_far HC3.out.1 hne_ 1 (.slice An2 (s'.W ++ [(rdOf ByteArray.empty s'.W x7) ++ (strOfNums [83])]).length cn2))
         have HCN := HC3.out.2
         clear HH BL HB HC HC3 HB2 HO19
         generalize hwc : wf.setCell ⟨gO, 1, none⟩ (.slice An2 (s'.W ++ [(rdOf ByteArray.empty s'.W x7) ++ (strOfNums [83])]).length cn2) = wg at HP HB3 BL2 ⊢
         clear hwc
         obtain ⟨colwg, hh_, hc_⟩ : ∃ c_, OrbH w.heap.size c_ wg gO gM n' _ _ _ _ _ _ _ ∧ c_ gl = 8 := ⟨_, HP, HCN⟩
         have HH := Aside0.mk hh_; have HC := Aside0.mk hc_; have BL := BL2; have HB := HB3
         clear hh_ hc_ BL2 HB3 HP HCN hne_
         obtain ⟨AF, cF, eF⟩ := Kd.R_slice HH.out.hF
         subst eF
         go_upto_region 19 with (fail)
         have hco_ : wg.cell? ⟨gO, 2, none⟩ = some (.slice AF s'.F.length cF) := (blk_cell HH.out.hO 2).trans rfl
         have hfo_ := blk_frozen HH.out.hO 2
         go_upto_region 20 with (first | ((with_reducible refine gate_builtin (b := .append) (xs := #[.tmp 102, .tmp 104]) rfl ?_); at_builtin; refine Kd.R_append (Kd.int .i64) (w0 := w) w.heap.size rfl (.tmp 102) (.tmp 104) 23 3 (.int .i64 0) 8 rfl Try.underlying23 info3 rfl (by decide) (by omega) (.slice AF s'.F.length cF) s'.F (x7) [.int .i64 (x7)] (fun k_ => rcl wg.heap.size colwg 2 k_ = 2) (fun _ => False) rfl rfl rfl (fun _ hk => hk.elim) (fun k_ hk => rcl_new hk) (R_col HH.out.hF (fun k_ hk => rcl_old hk)) HB.out HB.out.size (by have := LN.out; omega) ?_; intro v3 wh ho hb hg hat; obtain ⟨Anv3, cnv3, env3⟩ := Kd.R_slice ho; subst env3; rw [List.length_append, List.length_singleton] at ho; have HO19 := (B_gr HH.out.hO HH.out.cO hg HH.out.hF.1 (by decide)).1; have HC3 := Aside0.mk (B_gr BL.out HC.out hg HH.out.hF.1 (by decide)); have HP := HH.out.putF hg ho; have HB2 := Aside0.mk hb; clear ho hb hg hat hco_ hfo_; have hs19 : wh.cell? ⟨gO, 2, none⟩ = some (.slice AF s'.F.length cF) := (blk_cell HO19 2).trans rfl; have hf19 := blk_frozen HO19 2))
         clear hs19 hf19
         have hne_ : gl ≠ gO := fun e => by have a1 := HC3.out.2; have a2 := HP.cO; rw [e] at a1; omega
         have HB3 := Aside0.mk (below_set (g := gO) (j := 2) (v := (.slice Anv3 (s'.F.length + 1) cnv3)) HB2.out HP.bO)
         have BL2 := Aside0.mk (put_far HC3.out.1 hne_ 2 (.slice Anv3 (s'.F.length + 1) cnv3))
         have HCN := HC3.out.2
         clear HH BL HB HC HC3 HB2 HO19
         generalize hwc : wh.setCell ⟨gO, 2, none⟩ (.slice Anv3 (s'.F.length + 1) cnv3) = wi at HP HB3 BL2 ⊢
         clear hwc
         obtain ⟨colwi, hh_, hc_⟩ : ∃ c_, OrbH w.heap.size c_ wi gO gM n' _ _ _ _ _ _ _ ∧ c_ gl = 8 := ⟨_, HP, HCN⟩
         have HH := Aside0.mk hh_; have HC := Aside0.mk hc_; have BL := BL2; have HB := HB3
         clear hh_ hc_ BL2 HB3 HP HCN hne_
         obtain ⟨AB, cB, eB⟩ := Kd.R_slice HH.out.hB
         subst eB
         have hco_ : wi.cell? ⟨gO, 3, none⟩ = some (.slice AB s'.B.length cB) := (blk_cell HH.out.hO 3).trans rfl
         have hfo_ := blk_frozen HH.out.hO 3
         go_upto_region 21 with (first | ((with_reducible refine gate_builtin (b := .append) (xs := #[.tmp 112, .tmp 114]) rfl ?_); at_builtin; refine Kd.R_append (Kd.int .u8) (w0 := w) w.heap.size rfl (.tmp 112) (.tmp 114) 22 5 (.int .u8 0) 1 rfl Try.underlying22 info5 rfl (by decide) (by omega) (.slice AB s'.B.length cB) s'.B (83) [.int .u8 (83)] (fun k_ => rcl wi.heap.size colwi 3 k_ = 3) (fun _ => False) rfl rfl rfl (fun _ hk => hk.elim) (fun k_ hk => rcl_new hk) (R_col HH.out.hB (fun k_ hk => rcl_old hk)) HB.out HB.out.size (by have := LN.out; omega) ?_; intro v4 wj ho hb hg hat; obtain ⟨Anv4, cnv4, env4⟩ := Kd.R_slice ho; subst env4; rw [List.length_append, List.length_singleton] at ho; have HO19 := (B_gr HH.out.hO HH.out.cO hg HH.out.hB.1 (by decide)).1; have HC3 := Aside0.mk (B_gr BL.out HC.out hg HH.out.hB.1 (by decide)); have HP := HH.out.putB hg ho; have HB2 := Aside0.mk hb; clear ho hb hg hat hco_ hfo_; have hs19 : wj.cell? ⟨gO, 3, none⟩ = some (.slice AB s'.B.length cB) := (blk_cell HO19 3).trans rfl; have hf19 := blk_frozen HO19 3))
         clear hs19 hf19
         have hne_ : gl ≠ gO := fun e => by have a1 := HC3.out.2; have a2 := HP.cO; rw [e] at a1; omega
         have HB3 := Aside0.mk (below_set (g := gO) (j := 3) (v := (.slice Anv4 (s'.B.length + 1) cnv4)) HB2.out HP.bO)
         have BL2 := Aside0.mk (put_far HC3.out.1 hne_ 3 (.slice Anv4 (s'.B.length + 1) cnv4))
         have HCN := HC3.out.2
         clear HH BL HB HC HC3 HB2 HO19
         generalize hwc : wj.setCell ⟨gO, 3, none⟩ (.slice Anv4 (s'.B.length + 1) cnv4) = wk at HP HB3 BL2 ⊢
         clear hwc
         obtain ⟨colwk, hh_, hc_⟩ : ∃ c_, OrbH w.heap.size c_ wk gO gM n' _ _ _ _ _ _ _ ∧ c_ gl = 8 := ⟨_, HP, HCN⟩
         have HH := Aside0.mk hh_; have HC := Aside0.mk hc_; have BL := BL2; have HB := HB3
         clear hh_ hc_ BL2 HB3 HP HCN hne_
         generalize hcc : colwk = colc at HH HC
         clear hcc
         go_upto_region 21 with (fail)
         replace HH := Aside0.mk (HH.out.below (below_drew1 (Below.refl _ _)))
         replace BL := Aside0.mk (blk_drew BL.out)
         replace HB := Aside0.mk (below_drew1 HB.out)
         refine start_ (n := 15) (S := fun w' => w'.cell? ⟨gO, 4, none⟩ = some (.map (some gM)) ∧ w'.heap[gM]? = some (mapO n' vT' vS')) (ds := [14]) (bl_ 15 0) (by kernel_rfl) rfl (by kernel_rfl) ⟨(blk_cell HH.out.hO 4).trans rfl, HH.out.hM⟩ (fun hHeld => ?_)
         refine with_tabW orb_tab21 orb_bits21 (fun HT_ HW_ => ?_)
         generalize wk.drew = wl at HH BL HB hHeld ⊢
         refine pu_ 0 (some 118) (bl_ 15 1) HT_ ?_
         refine pu_ 1 (some 119) (bl_ 15 3) HT_ ?_
         refine pu_ 2 (some 120) (bl_ 15 7) HT_ ?_
         refine ta_ 3 (some 121) (bl_ 15 15) HT_ HW_ hHeld ?_
         refine pu_ 4 (some 122) (bl_ 15 31) HT_ ?_
         refine pu_ 5 (some 123) (bl_ 15 63) HT_ ?_
         refine pu_ 6 (some 124) (bl_ 15 127) HT_ ?_
         refine pu_ 7 (some 125) (bl_ 15 255) HT_ ?_
         refine ta_ 8 (some 126) (bl_ 15 511) HT_ HW_ hHeld ?_
         refine pu_ 9 (some 127) (bl_ 15 1023) HT_ ?_
         have hlk : ∀ w', w'.heap[gM]? = some (mapO n' vT' vS') → (Instr.lookup 67 (.map (some gM)) (.int .u8 83) false).run Try.prog w' = .ok vS' w' := fun w' h_ => by
          have hn := hn0.out
          have := look_S h_ (by omega)
          rw [HH.out.look.2] at this
          exact this
         refine ta_ 10 (some 128) (v := vS') (bl_ 15 2047) HT_ HW_ hHeld ?_ (hy := Or.inl ⟨by rfl, fun w' hs_ => ?_⟩)
         rotate_left
         ·have hq := hlk w' hs_.2
          go_simp
         clear hlk
         refine pu_ 11 (some 129) (bl_ 15 4095) HT_ ?_
         refine on_ 12 (some 130) (bl_ 15 8191) HT_ (fun K hK => ?_)
         refine value_ (w1 := ?_) (v := ?_) (by rfl) rfl ?_ ?_
         rotate_left 2
         ·go_simp
          constructor
          ·rfl
          ·rfl
         refine hK.out _ _ ⟨((below_alloc (Below.refl _ _) _).cell (World.block_lt_of_cell? _ _ hHeld.1)).trans hHeld.1, blk_alloc hHeld.2 _⟩ (fun hHeld => ?_)
         clear hK K
         refine no_ (some 130) ?_
         refine on_ 13 (some 131) (bl_ 15 16383) HT_ (fun K hK => ?_)
         refine Kd.R_append_step (Kd.int .i64) (w0 := w) w.heap.size (by rfl) (.tmp 128) (.tmp 130) 23 3 (.int .i64 0) 8 rfl Try.underlying23 info3 rfl (by decide) (by omega) vS' s'.S ((s'.L.length : Int)) [.int .i64 ((s'.L.length : Int))] (fun k_ => rcl wl.heap.size colc 5 k_ = 5) (fun _ => False) rfl rfl rfl (fun _ hk => hk.elim) (fun k_ hk => rcl_new hk) (R_col HH.out.hS (fun k_ hk => rcl_old hk)) HB.out HB.out.size (by have := LN.out; omega) ?_
         intro v1 wlb ho hb hg hat
         have HP := HH.out.putS hn0.out hg ho
         have HM := Aside0.mk HP.1
         have HO19 := (B_gr HH.out.hO HH.out.cO hg HH.out.hS.1 (by decide)).1
         have HC3 := Aside0.mk (B_gr BL.out HC.out hg HH.out.hS.1 (by decide))
         replace HH := Aside0.mk HP.2
         clear HP
         have HB2 := Aside0.mk hb
         refine hK.out _ _ ⟨(blk_cell HO19 4).trans rfl, HM.out⟩ (fun hHeld => ?_)
         clear hK K ho hb hg hat HO19
         refine no_ (some 131) ?_
         refine last_ (i := 14) (N := none) (bl_ 15 32767) rfl rfl (one_of HT_.out (by kernel_rfl)) (by decide) (fun K hK => ?_)
         have hput : (Instr.mapUpdate 67 (.map (some gM)) (.int .u8 83) v1).run Try.prog wlb = .ok () (setMap wlb gM 2 vT' v1) := put_S HM.out hn0.out v1
         refine skip_ (w1 := setMap wlb gM 2 vT' v1) (by rfl) rfl ?_ ?_
         ·go_simp
         refine hK.out _ _ ?_
         clear hK K hput
         refine done_ (done_of HT_.out (by kernel_rfl)) ?_
         try go_wp2
         have hgm : gl ≠ gM := fun e => by have a1 := HC3.out.2; have a2 := HH.out.cM; rw [e] at a1; omega
         have BL2 := Aside0.mk ((setMap_far (n := 2) vT' v1 hgm).trans HC3.out.1)
         have HB3 := Aside0.mk (setMap_below (n := 2) vT' v1 HB2.out HH.out.bM)
         go_roundg 0
         case measure => have := HG.out; omega
         case rel => exact ⟨2, 2, _, _, _, _, _, _, _, _, (by first | rfl | (simp; done) | (simp [*]; done)), ⟨by omega⟩, ⟨by omega⟩, HT, ⟨⟨fun e => absurd e (by decide), fun e => absurd e (by decide), fun _ => rfl⟩⟩, ⟨HC3.out.2⟩, BL2, HH, HB3⟩
       ·have H := HS.out
        clear HS
        rw [if_neg hj0] at H
        have hjb := decide_eq_false hj0
        have hlen := cp_ H
        replace H := Option.some.inj (ca_ H)
        subst H
        rw [if_neg (by decide), if_neg (by decide)] at HT
        have LN := Aside0.mk hlen
        clear hlen SL13 Y0 Y1 BX NE GX
        generalize hcc : rcl w13.heap.size col' 0 = colc at HH HC
        clear hcc
        go_upto_region 21 with (fail)
        replace HH := Aside0.mk (HH.out.below (below_drew1 (Below.refl _ _)))
        replace BL := Aside0.mk (blk_drew BL.out)
        replace HB := Aside0.mk (below_drew1 HB.out)
        refine start_ (n := 15) (S := fun w' => w'.cell? ⟨gO, 4, none⟩ = some (.map (some gM)) ∧ w'.heap[gM]? = some (mapO n' vT' vS')) (ds := [14]) (bl_ 15 0) (by kernel_rfl) rfl (by kernel_rfl) ⟨(blk_cell HH.out.hO 4).trans rfl, HH.out.hM⟩ (fun hHeld => ?_)
        refine with_tabW orb_tab21 orb_bits21 (fun HT_ HW_ => ?_)
        generalize w17.drew = w18 at HH BL HB hHeld ⊢
        refine pu_ 0 (some 118) (bl_ 15 1) HT_ ?_
        refine pu_ 1 (some 119) (bl_ 15 3) HT_ ?_
        refine pu_ 2 (some 120) (bl_ 15 7) HT_ ?_
        refine ta_ 3 (some 121) (bl_ 15 15) HT_ HW_ hHeld ?_
        refine pu_ 4 (some 122) (bl_ 15 31) HT_ ?_
        refine pu_ 5 (some 123) (bl_ 15 63) HT_ ?_
        refine pu_ 6 (some 124) (bl_ 15 127) HT_ ?_
        refine pu_ 7 (some 125) (bl_ 15 255) HT_ ?_
        refine ta_ 8 (some 126) (bl_ 15 511) HT_ HW_ hHeld ?_
        refine pu_ 9 (some 127) (bl_ 15 1023) HT_ ?_
        have hlk : ∀ w', w'.heap[gM]? = some (mapO n' vT' vS') → (Instr.lookup 67 (.map (some gM)) (.int .u8 83) false).run Try.prog w' = .ok vS' w' := fun w' h_ => by
         have hn := hn0.out
         have := look_S h_ (by omega)
         rw [HH.out.look.2] at this
         exact this
        refine ta_ 10 (some 128) (v := vS') (bl_ 15 2047) HT_ HW_ hHeld ?_ (hy := Or.inl ⟨by rfl, fun w' hs_ => ?_⟩)
        rotate_left
        ·have hq := hlk w' hs_.2
         go_simp
        clear hlk
        refine pu_ 11 (some 129) (bl_ 15 4095) HT_ ?_
        refine on_ 12 (some 130) (bl_ 15 8191) HT_ (fun K hK => ?_)
        refine value_ (w1 := ?_) (v := ?_) (by rfl) rfl ?_ ?_
        rotate_left 2
        ·go_simp
         constructor
         ·rfl
         ·rfl
        refine hK.out _ _ ⟨((below_alloc (Below.refl _ _) _).cell (World.block_lt_of_cell? _ _ hHeld.1)).trans hHeld.1, blk_alloc hHeld.2 _⟩ (fun hHeld => ?_)
        clear hK K
        refine no_ (some 130) ?_
        refine on_ 13 (some 131) (bl_ 15 16383) HT_ (fun K hK => ?_)
        refine Kd.R_append_step (Kd.int .i64) (w0 := w) w.heap.size (by rfl) (.tmp 128) (.tmp 130) 23 3 (.int .i64 0) 8 rfl Try.underlying23 info3 rfl (by decide) (by omega) vS' s'.S (j) [.int .i64 (j)] (fun k_ => rcl w18.heap.size colc 5 k_ = 5) (fun _ => False) rfl rfl rfl (fun _ hk => hk.elim) (fun k_ hk => rcl_new hk) (R_col HH.out.hS (fun k_ hk => rcl_old hk)) HB.out HB.out.size (by have := LN.out; omega) ?_
        intro v1 w18b ho hb hg hat
        have HP := HH.out.putS hn0.out hg ho
        have HM := Aside0.mk HP.1
        have HO19 := (B_gr HH.out.hO HH.out.cO hg HH.out.hS.1 (by decide)).1
        have HC3 := Aside0.mk (B_gr BL.out HC.out hg HH.out.hS.1 (by decide))
        replace HH := Aside0.mk HP.2
        clear HP
        have HB2 := Aside0.mk hb
        refine hK.out _ _ ⟨(blk_cell HO19 4).trans rfl, HM.out⟩ (fun hHeld => ?_)
        clear hK K ho hb hg hat HO19
        refine no_ (some 131) ?_
        refine last_ (i := 14) (N := none) (bl_ 15 32767) rfl rfl (one_of HT_.out (by kernel_rfl)) (by decide) (fun K hK => ?_)
        have hput : (Instr.mapUpdate 67 (.map (some gM)) (.int .u8 83) v1).run Try.prog w18b = .ok () (setMap w18b gM 2 vT' v1) := put_S HM.out hn0.out v1
        refine skip_ (w1 := setMap w18b gM 2 vT' v1) (by rfl) rfl ?_ ?_
        ·go_simp
        refine hK.out _ _ ?_
        clear hK K hput
        refine done_ (done_of HT_.out (by kernel_rfl)) ?_
        try go_wp2
        have hgm : gl ≠ gM := fun e => by have a1 := HC3.out.2; have a2 := HH.out.cM; rw [e] at a1; omega
        have BL2 := Aside0.mk ((setMap_far (n := 2) vT' v1 hgm).trans HC3.out.1)
        have HB3 := Aside0.mk (setMap_below (n := 2) vT' v1 HB2.out HH.out.bM)
        go_roundg 0
        case measure => have := HG.out; omega
        case rel => exact ⟨2, 2, _, _, _, _, _, _, _, _, (by first | rfl | (simp; done) | (simp [*]; done)), ⟨by omega⟩, ⟨by omega⟩, HT, ⟨⟨fun e => absurd e (by decide), fun e => absurd e (by decide), fun _ => rfl⟩⟩, ⟨HC3.out.2⟩, BL2, HH, HB3⟩
     ·have hj2' : jj = 2 := by omega
      subst hj2'
      have hn2 := Aside0.mk (HN.out.2.2 rfl)
      have H := AZ.out
      clear AZ
      change innerO k1 x7 [] s' = some z at H
      simp only [innerO] at H
      obtain rfl := Option.some.inj H
      clear H
      clear hcl0 hcl1 hfl0 hfl1 hco0 hfo0
      go_wp2
      go_roundg k1
      case measure => have := HK.out; omega
      case rel => exact ⟨wrap64 (x7 + 1), n', _, _, _, _, _, _, _, s', (by first | rfl | (simp; done) | (simp [*]; done)), HR, ⟨by have := HK.out; omega⟩, ⟨.inr hn2.out⟩, HH, HB⟩
   ·rw [if_neg hq1] at H
    have c1b := decide_eq_false hq1
    obtain rfl := Option.some.inj H
    clear H hq1
    go_wp2
    go_ret2
    exact ⟨gO, gM, n, col, _, _, _, _, _, _, rfl, HH.out, HB.out⟩
theorem orbit_calls (k : Nat) (A0 : Option Addr) (c0 : Nat) (l0 : List Int) (A1 : Option Addr) (c1 : Nat) (l1 : List Int) (R : Option Orb) (w : World) (h0 : Kd.C (Kd.int .i64) w A0 l0.length l0) (g0 : l0.length ≤ c0) (h1 : Kd.C (Kd.int .i64) w A1 l1.length l1) (g1 : l1.length ≤ c1) (h : orbitO k l0 l1 = some R) :
  Calls Try.prog 59 #[.agg #[.slice A0 l0.length c0, .slice A1 l1.length c1]] w fun e w' => OrbPost w w' e R := by
 unfold orbitO at h
 obtain ⟨⟨y1, y2, yb⟩, a, h⟩ := Option.bind_eq_some_iff.mp h
 cases yb with
 | false =>
  have e : none = R := Option.some.inj h
  subst e
  exact orbit_no k A0 c0 l0 A1 c1 l1 y1 y2 w h0 g0 h1 g1 a
 | true => exact orbit_yes k A0 c0 l0 A1 c1 l1 y1 y2 R w h0 g0 h1 g1 a h
end Go.Proofs.Ytcggfjpnfodbaaa.M
end
section
/- Finding the orbit: more rounds give the same answer. No conditions. -/
namespace Go.Proofs.Ytcggfjpnfodbaaa.M
set_option linter.unusedVariables false
set_option linter.unusedSimpArgs false
open Go Go.RowKit Go.Proofs.YtcggfjpnfodbaaaW.PrintWords Go.Proofs.YtcggfjpnfodbaaaW.PrintLast Go.Proofs.YtcggfjpnfodbaaaW.PrintMore Go.Proofs.Ytcggfjpnfodbaaa.A
theorem idxS_mono (k : Nat) (r u : List Int) : ∀ (l : List S25) (i : Nat), LeO (idxS k r u l i) (idxS (k + 1) r u l i) := by
 intro l
 induction l with
 | nil => intro i; exact LeO.refl _
 | cons x l ih =>
  intro i
  unfold idxS
  refine LeO.bind (Z20.mono _ _ _ _ _) (fun b => LeO.ite (LeO.refl _) (ih _))
theorem indexO_mono (k : Nat) (l : List S25) (r u : List Int) : LeO (indexO k l r u) (indexO (k + 1) l r u) := by
 unfold indexO
 exact LeO.ite (idxS_mono _ _ _ _ _) (LeO.refl _)
theorem stpO_mono (k : Nat) (i c : Int) (s : Orb) : LeO (stpO k i c s) (stpO (k + 1) i c s) := by
 unfold stpO
 refine LeO.ite (LeO.ite (LeO.bind (Z11.mono _ _ _ _) (fun x => LeO.bind (Z41.mono _ _ _) (fun y => LeO.bind (indexO_mono _ _ _ _) (fun j => LeO.refl _)))) (LeO.refl _)) (LeO.refl _)
theorem innerO_mono (k : Nat) (i : Int) : ∀ (cs : List Int) (s : Orb), LeO (innerO k i cs s) (innerO (k + 1) i cs s) := by
 intro cs
 induction cs with
 | nil => intro s; exact LeO.refl _
 | cons c cs ih =>
  intro s
  unfold innerO
  refine LeO.bind (stpO_mono _ _ _ _) (fun z => ?_)
  cases z with
  | none => exact LeO.refl _
  | some s' => exact ih s'
theorem loopO_mono : ∀ (k : Nat) (s : Orb) (i : Int), LeO (loopO k s i) (loopO (k + 1) s i) := by
 intro k
 induction k with
 | zero => intro s i; exact LeO.none _
 | succ k ih =>
  intro s i
  rw [loopO, loopO]
  refine LeO.ite (LeO.bind (innerO_mono _ _ _ _) (fun z => ?_)) (LeO.refl _)
  cases z with
  | none => exact LeO.refl _
  | some s' => exact ih s' _
theorem orbitO_mono (k : Nat) (r u : List Int) : LeO (orbitO k r u) (orbitO (k + 1) r u) := by
 unfold orbitO
 exact LeO.bind (Z41.mono _ _ _) (fun y => LeO.ite (loopO_mono _ _ _) (LeO.refl _))
end Go.Proofs.Ytcggfjpnfodbaaa.M
end
section
/- Sorting a row of the call's own: what slices.SortFunc leaves. No conditions. -/
namespace Go.Proofs.Ytcggfjpnfodbaaa.M
set_option linter.unusedVariables false
set_option linter.unusedSimpArgs false
open Go Go.RowKit Go.Proofs.YtcggfjpnfodbaaaW.PrintWords.Kd Go.Proofs.YtcggfjpnfodbaaaW.PrintWords Go.Proofs.YtcggfjpnfodbaaaW.PrintLast Go.Proofs.YtcggfjpnfodbaaaW.PrintMore Go.Shelf Go.Lib Go.Sort Go.Proofs
structure Cel {α : Type} (d : Kd α) (Q : α → Prop) (w : World) (base : Nat) (ok : Nat → Prop) where
 x : α
 c : List Value
 h : d.M w base ok x c
 q : Q x
section
variable {α : Type} {d : Kd α} {Q : α → Prop} {w W : World} {ok : Nat → Prop} {e base g cap : Nat} {v : Value} {xs : List α}
theorem Cel.len (z : Cel d Q w base ok) : z.c.length = d.sz := d.K_len (d.K_of_M z.h)
theorem Cel.one (z : Cel d Q w base ok) : ∀ u ∈ z.c, u.oneCell' = true := d.K_one (d.K_of_M z.h)
theorem Cel.move (z : Cel d Q w base ok) (hm : ∀ k, ok k → k < w.heap.size → W.heap[k]? = w.heap[k]?) : d.M W base ok z.x z.c :=
 d.M_mono (fun _ hk => hk.1) (d.M_move (fun k hk => hm k hk.1 hk.2.2.1) (d.M_bound z.h))
theorem cels_of : ∀ (xs : List α) (rows : List (List Value)), rows.length = xs.length → (∀ x ∈ xs, Q x) → (∀ (j : Nat) (x : α) (c : List Value), xs[j]? = some x → rows[j]? = some c → d.M w base ok x c) →
  ∃ l : List (Cel d Q w base ok), l.map (·.x) = xs ∧ l.map (·.c) = rows
 | [], [], _, _, _ => ⟨[], rfl, rfl⟩
 | [], _ :: _, h, _, _ => by simp at h
 | _ :: _, [], h, _, _ => by simp at h
 | x :: xs, c :: rows, h, hq, hf => by
  obtain ⟨l, h1, h2⟩ := cels_of xs rows (by simpa using h) (fun y hy => hq y (List.mem_cons_of_mem _ hy)) (fun j y c' hy hc => hf (j + 1) y c' (by simpa using hy) (by simpa using hc))
  exact ⟨⟨x, c, hf 0 x c rfl rfl, hq x List.mem_cons_self⟩ :: l, by simp [h1], by simp [h2]⟩
theorem flat_lenK {sz : Nat} : ∀ {rows : List (List Value)}, (∀ c ∈ rows, c.length = sz) → rows.flatten.length = rows.length * sz
 | [], _ => by simp
 | c :: rows, h => by
  rw [List.flatten_cons, List.length_append, flat_lenK (fun c' hc => h c' (List.mem_cons_of_mem _ hc)), h c List.mem_cons_self, List.length_cons, Nat.add_mul, Nat.one_mul, Nat.add_comm]
theorem flat_chunk {sz : Nat} : ∀ {rows : List (List Value)} (j : Nat) (c : List Value), (∀ c ∈ rows, c.length = sz) → rows[j]? = some c → (rows.flatten.drop (j * sz)).take sz = c
 | [], j, c, _, h => by simp at h
 | r :: rows, 0, c, hl, h => by
  simp only [List.getElem?_cons_zero, Option.some.injEq] at h
  subst h
  have := hl r List.mem_cons_self
  rw [Nat.zero_mul, List.drop_zero, List.flatten_cons, List.take_append_of_le_length (by omega), List.take_of_length_le (by omega)]
 | r :: rows, j + 1, c, hl, h => by
  have h0 := hl r List.mem_cons_self
  have hd : r.drop sz = [] := List.drop_of_length_le (by omega)
  rw [List.flatten_cons, Nat.add_mul, Nat.one_mul, Nat.add_comm, ← List.drop_drop, List.drop_append_of_le_length (by omega), hd, List.nil_append]
  exact flat_chunk j c (fun c' hc => hl c' (List.mem_cons_of_mem _ hc)) (by simpa using h)
theorem flat_at {sz : Nat} {rows : List (List Value)} (hl : ∀ c ∈ rows, c.length = sz) {t : Nat} (ht : t < rows.length * sz) {c : List Value} (hc : rows[t / sz]? = some c) : rows.flatten[t]? = c[t % sz]? := by
 have h := flat_chunk (t / sz) c hl hc
 have hsz : 0 < sz := by
  rcases Nat.eq_zero_or_pos sz with h0 | h0
  ·subst h0; simp at ht
  ·exact h0
 have hm := Nat.mod_lt t hsz
 rw [← h, List.getElem?_take, if_pos hm, List.getElem?_drop, Nat.mul_comm, Nat.div_add_mod]
theorem R_of_cells {l : List (Cel d Q w base ok)} {okk : Nat → Prop} {cur : Array Value} (hg0 : okk g) (hbase : base ≤ g) (hW : ∀ k, k ≠ g → k < w.heap.size → W.heap[k]? = w.heap[k]?)
  (hg : W.heap[g]? = some (.cells cur e (0, 0))) (hn : l.length ≤ cap) (hm : cap ≤ maxLen) (hs : cur.size = cap * d.sz) (ht : cur.toList.take (l.length * d.sz) = (l.map (·.c)).flatten) (hok2 : ∀ k, ok k → okk k ∧ k ≠ g) :
  d.R e W base okk (.slice (some ⟨g, 0, none⟩) l.length cap) (l.map (·.x)) := by
 have hl : ∀ c ∈ l.map (·.c), c.length = d.sz := by
  intro c hc
  obtain ⟨z, _, rfl⟩ := List.mem_map.1 hc
  exact z.len
 refine ⟨fun k hk => ?_, (l.map (·.c)).flatten, ?_, ?_, ?_⟩
 ·simp only [Value.ownBlock, Option.some.injEq] at hk; rw [← hk]; exact hg0
 ·show World.ownsRow W base e d.sz _ _ _
  rw [List.length_map]
  exact ⟨by rw [flat_lenK hl, List.length_map], .inr ⟨g, cap, cur, rfl, hbase, hg, hn, hm, hs, ht⟩⟩
 ·rw [flat_lenK hl, List.length_map, List.length_map]
 ·intro j p hj
  rw [List.getElem?_map] at hj
  cases hz : l[j]? with
  | none => rw [hz] at hj; simp at hj
  | some z =>
   rw [hz] at hj
   simp only [Option.map_some, Option.some.injEq] at hj
   subst hj
   rw [flat_chunk j z.c hl (by rw [List.getElem?_map, hz]; rfl)]
   exact d.M_mono (fun k hk => ⟨(hok2 k hk).1, fun e_ => (hok2 k hk).2 (by simpa [Value.ownBlock] using e_)⟩) (z.move (fun k hk hlt => hW k (hok2 k hk).2 hlt))
theorem R_cells (h : d.R e w base ok v xs) (hq : ∀ x ∈ xs, Q x) (hp : 0 < xs.length) : ∃ g cap cur, v = .slice (some ⟨g, 0, none⟩) xs.length cap ∧ ok g ∧ base ≤ g ∧ g < w.heap.size ∧ w.heap[g]? = some (.cells cur e (0, 0)) ∧ xs.length ≤ cap ∧ cap ≤ maxLen ∧ cur.size = cap * d.sz ∧
  ∃ l : List (Cel d Q w base (fun k => ok k ∧ k ≠ g)), l.map (·.x) = xs ∧ cur.toList.take (xs.length * d.sz) = (l.map (·.c)).flatten := by
 obtain ⟨h0, inner, ho, hr⟩ := h
 obtain ⟨hlen, ho⟩ := ho
 rcases ho with ⟨rfl, hz⟩ | ⟨g, cap, cur, rfl, hb, hg, hn, hm, hs, ht⟩
 ·omega
 ·have hgl : g < w.heap.size := by
   rcases Nat.lt_or_ge g w.heap.size with h | h
   ·exact h
   ·rw [Array.getElem?_eq_none h] at hg; cases hg
  obtain ⟨l, h1, h2⟩ := cels_of (d := d) (w := w) (base := base) (Q := Q) (ok := fun k => ok k ∧ k ≠ g) xs (chunks d.sz xs.length inner) (chunks_length _ _ _) hq (fun j x c hx hc => by
   rw [chunks_get hc]
   exact d.M_mono (fun k hk => ⟨hk.1, fun e_ => hk.2 (by rw [e_]; rfl)⟩) (hr.2 j x hx))
  refine ⟨g, cap, cur, rfl, h0 g rfl, hb, hgl, hg, hn, hm, hs, l, h1, ?_⟩
  have hrl : ∀ c ∈ l.map (·.c), c.length = d.sz := by
   intro c hc
   obtain ⟨z, _, rfl⟩ := List.mem_map.1 hc
   exact z.len
  rw [ht]
  apply List.ext_getElem?
  intro t
  have hll : (l.map (·.c)).length = xs.length := by rw [List.length_map, ← h1, List.length_map]
  by_cases htl : t < xs.length * d.sz
  ·have hsz : 0 < d.sz := by
    rcases Nat.eq_zero_or_pos d.sz with h | h
    ·rw [h] at htl; simp at htl
    ·exact h
   have hdiv : t / d.sz < xs.length := (Nat.div_lt_iff_lt_mul hsz).2 htl
   have hc := chunks_at (sz := d.sz) (inner := inner) hdiv
   rw [← h2] at hc
   rw [flat_at hrl (by rw [hll]; exact htl) hc]
   have hmod := Nat.mod_lt t hsz
   rw [List.getElem?_take, if_pos hmod, List.getElem?_drop, Nat.mul_comm, Nat.div_add_mod]
  ·rw [List.getElem?_eq_none (by rw [hlen]; omega), List.getElem?_eq_none (by rw [flat_lenK hrl, hll]; omega)]
theorem row_after {cur F : Array Value} {m : Nat} {os : Array Obj} (hg : w.heap[g]? = some (.cells cur e (0, 0))) (hF : F.size ≤ cur.size) (hW : W = grow (putRow id (Sort.ahead w m) g 0 F) os) :
  W.heap[g]? = some (.cells (putCells id 0 F cur) e (0, 0)) ∧ (∀ k, k ≠ g → k < w.heap.size → W.heap[k]? = w.heap[k]?) ∧ w.heap.size ≤ W.heap.size ∧ W.os = w.os ∧ W.tape = w.tape ∧ W.output = w.output ∧ (putCells id 0 F cur).size = cur.size ∧ (putCells id 0 F cur).toList.take F.size = F.toList := by
 subst hW
 have hgl : g < w.heap.size := by
  rcases Nat.lt_or_ge g w.heap.size with h | h
  ·exact h
  ·rw [Array.getElem?_eq_none h] at hg; cases hg
 have hp : ∀ k, k < w.heap.size → (grow (putRow id (Sort.ahead w m) g 0 F) os).heap[k]? = (w.heap.modify g (onCells (putCells id 0 F)))[k]? := by
  intro k hk
  show ((w.heap.modify g (onCells (putCells id 0 F))) ++ os)[k]? = _
  rw [Array.getElem?_append_left (by simpa using hk)]
 refine ⟨?_, ?_, ?_, rfl, rfl, rfl, by simp [putCells], ?_⟩
 ·rw [hp g hgl, Array.getElem?_modify, if_pos rfl, hg]; rfl
 ·intro k hk hlt
  rw [hp k hlt, Array.getElem?_modify, if_neg (fun e_ => hk e_.symm)]
 ·show w.heap.size ≤ ((w.heap.modify g (onCells (putCells id 0 F))) ++ os).size
  simp
 ·apply List.ext_getElem?
  intro t
  by_cases ht : t < F.size
  ·rw [List.getElem?_take, if_pos ht, Array.getElem?_toList, Array.getElem?_toList]
   have htc : t < cur.size := by omega
   simp only [putCells, Array.getElem?_mapIdx, Array.getElem?_eq_getElem htc, Array.getElem?_eq_getElem ht, Option.map_some, Nat.zero_le, true_and, Nat.zero_add, ht, if_true, Nat.sub_zero, id]
   rw [getElem!_pos F t ht]
  ·rw [List.getElem?_eq_none (by simp; omega), List.getElem?_eq_none (by simp; omega)]
theorem perm_list {β : Type} [Inhabited β] {D D' : Array β} (h : PermIn 0 D.size D D') : D'.toList.Perm D.toList := by
 obtain ⟨hs, _, hp⟩ := h
 have h1 : D.extract 0 D.size = D := by simp
 have h2 : D'.extract 0 D.size = D' := by rw [← hs]; simp
 rw [h1, h2] at hp
 exact hp
theorem sorted_list {β : Type} [Inhabited β] {lt : β → β → Bool} {D D' : Array β} (hs : D'.size = D.size) (h : SortedIn lt 0 D.size D') : D'.toList.Pairwise (fun a b => lt b a = false) := by
 rw [List.pairwise_iff_getElem]
 intro i j hi hj hij
 have hi' : i < D'.size := by simpa using hi
 have hj' : j < D'.size := by simpa using hj
 have := h i j (Nat.zero_le _) hij (by omega)
 rwa [getElem!_pos D' i hi', getElem!_pos D' j hj'] at this
theorem below_of {b : Nat} (hW : ∀ k, k ≠ g → k < w.heap.size → W.heap[k]? = w.heap[k]?) (hs : w.heap.size ≤ W.heap.size) (h1 : W.os = w.os) (h2 : W.tape = w.tape) (h3 : W.output = w.output) (hb : b ≤ g) (hg : g < w.heap.size) : Go.RowKit.Below b w W :=
 ⟨h1, h2, h3, hs, fun k hk => hW k (by omega) (by omega)⟩
structure Ord3 (Q : α → Prop) (cf : α → α → Int) : Prop where
 irr : ∀ x, Q x → ¬ cf x x < 0
 tr : ∀ x y z, Q x → Q y → Q z → cf x y < 0 → cf y z < 0 → cf x z < 0
 nt : ∀ x y z, Q x → Q y → Q z → ¬ cf x y < 0 → ¬ cf y z < 0 → ¬ cf x z < 0
theorem Ord3.swo {cf : α → α → Int} (h : Ord3 Q cf) : SWO (ltOf fun p q : Cel d Q w base ok => cf p.x q.x) where
 irrefl p := decide_eq_false (h.irr p.x p.q)
 trans p q r h1 h2 := decide_eq_true (h.tr p.x q.x r.x p.q q.q r.q (of_decide_eq_true h1) (of_decide_eq_true h2))
 ntrans p q r h1 h2 := decide_eq_false (h.nt p.x q.x r.x p.q q.q r.q (of_decide_eq_false h1) (of_decide_eq_false h2))
def SortedTo (d : Kd α) (cf : α → α → Int) (e : Nat) (w w' : World) (base : Nat) (ok : Nat → Prop) (v : Value) (xs : List α) : Prop :=
 ∃ xs' : List α, xs'.Perm xs ∧ xs'.Pairwise (fun a b => ¬ cf b a < 0) ∧ d.R e w' base ok v xs' ∧ Kept w w' (fun k => some k = v.ownBlock) ∧ Go.RowKit.Below base w w'
theorem sortedTo_nil {cf : α → α → Int} (h : d.R e w base ok v []) : SortedTo d cf e w w base ok v [] :=
 ⟨[], List.Perm.refl _, List.Pairwise.nil, h, Kept.refl _ _, Go.RowKit.Below.refl _ _⟩
theorem sortedTo_of {cf : α → α → Int} {D D' : Array (Cel d Q w base (fun k => ok k ∧ k ≠ g))} [Inhabited (Cel d Q w base (fun k => ok k ∧ k ≠ g))] {cur F : Array Value} {m : Nat} {os : Array Obj} (hD : D.toList.map (·.x) = xs) (hp : PermIn 0 D.size D D') (hs : SortedIn (ltOf fun p q : Cel d Q w base (fun k => ok k ∧ k ≠ g) => cf p.x q.x) 0 D.size D')
  (hF : F.toList = (D'.toList.map (·.c)).flatten) (hW : W = grow (putRow id (Sort.ahead w m) g 0 F) os) (hg0 : ok g) (hb : base ≤ g) (hgl : g < w.heap.size) (hg : w.heap[g]? = some (.cells cur e (0, 0))) (hn : xs.length ≤ cap) (hm : cap ≤ maxLen) (hc : cur.size = cap * d.sz) :
  SortedTo d cf e w W base ok (.slice (some ⟨g, 0, none⟩) xs.length cap) xs := by
 have hpl := perm_list hp
 have hlen : D'.toList.length = xs.length := by rw [hpl.length_eq, ← hD, List.length_map]
 have hFs : F.size = xs.length * d.sz := by
  have h1 : F.toList.length = _ := congrArg List.length hF
  rw [flat_lenK (fun c hc => by obtain ⟨z, _, rfl⟩ := List.mem_map.1 hc; exact z.len), List.length_map, hlen] at h1
  simpa using h1
 obtain ⟨a1, a2, a3, a4, a5, a6, a7, a8⟩ := row_after (W := W) hg (by rw [hFs, hc]; exact Nat.mul_le_mul_right _ hn) hW
 have hN := R_of_cells (l := D'.toList) (okk := ok) (base := base) (e := e) (cap := cap) hg0 hb a2 a1 (by omega) hm (by omega) (by rw [hlen, ← hFs, a8, hF]) (fun k hk => hk)
 rw [hlen] at hN
 refine ⟨D'.toList.map (·.x), ?_, ?_, hN, ⟨a3, fun k hk hne => a2 k (fun e_ => hne (by rw [e_]; rfl)) hk⟩, below_of a2 a3 a4 a5 a6 hb hgl⟩
 ·rw [← hD]; exact hpl.map _
 ·rw [List.pairwise_map]
  exact (sorted_list hp.1 hs).imp (fun h => of_decide_eq_false h)
end
section
variable {P : Program} {ρ : Ren} {α : Type} {d : Kd α} {Q : α → Prop} {w : World} {ok : Nat → Prop} {e base : Nat} {v : Value} {xs : List α}
set_option maxHeartbeats 2000000 in
theorem sortN1 (L : SlLaysF.n6 P ρ) (L0 : SlLaysF0.n6 P ρ) (hd : d.sz = 1) {cf : α → α → Int} (hO : Ord3 Q cf) (f : Nat)
  (eg : ∀ args w, (callFunc f args).run P w = .ok (.enter f args) w) (hc : ∀ (W : World) (x y : α) (cx cy : Value), Q x → Q y → d.K W x [cx] → d.K W y [cy] → Calls P f #[cx, cy] W fun e w' => e = .returned (.int .i64 (cf x y)) ∧ ∃ q os', w' = grow (W.drewN q) os')
  (h : d.R e w base ok v xs) (hq : ∀ x ∈ xs, Q x) (hsz : xs.length < 4611686018427387904) :
  Calls P (ρ.f 6) #[v, .func (.func f) #[] #[]] w fun e' w' => e' = .returned (.tuple #[]) ∧ SortedTo d cf e w w' base ok v xs := by
 rcases Nat.eq_zero_or_pos xs.length with h0 | hp
 ·have hx : xs = [] := List.length_eq_zero_iff.1 h0
  subst hx
  obtain ⟨A, c, rfl⟩ := Kd.R_slice h
  exact (AnyF.slices_SortFunc_none L0 A c _ w).mono fun _ _ ⟨he, hw⟩ => ⟨he, by rw [hw]; exact sortedTo_nil h⟩
 ·obtain ⟨g, cap, cur, rfl, hg0, hb, hgl, hg, hn, hm, hcs, l, hl1, hl2⟩ := R_cells h hq hp
  have hll : l.length = xs.length := by rw [← hl1, List.length_map]
  haveI : Inhabited (Cel d Q w base (fun k => ok k ∧ k ≠ g)) := ⟨l[0]'(by omega)⟩
  obtain ⟨enc, one⟩ : ∃ enc : Cel d Q w base (fun k => ok k ∧ k ≠ g) → Value, ∀ z, z.c = [enc z] := ⟨fun z => z.c.headD .nilIface, fun z => by
   have hz := z.len
   rw [hd] at hz
   obtain ⟨u, hu⟩ := List.length_eq_one_iff.1 hz
   show z.c = [z.c.headD .nilIface]
   rw [hu]; rfl⟩
  have hfl : ∀ r : List (Cel d Q w base (fun k => ok k ∧ k ≠ g)), (r.map (·.c)).flatten = r.map enc := by
   intro r
   induction r with
   | nil => rfl
   | cons z r ih => rw [List.map_cons, List.map_cons, List.flatten_cons, ih, one z]; rfl
  have hput : ∀ (w' : World) (D : Array (Cel d Q w base (fun k => ok k ∧ k ≠ g))), putRow enc w' g 0 D = putRow id w' g 0 (D.map enc) := by
   intro w' D
   unfold putRow
   apply mapBlock_congr
   intro c e fr _
   unfold putCells
   apply Array.ext
   ·simp
   ·intro i h1 h2
    simp only [Array.getElem_mapIdx, Array.size_map, id]
    by_cases hi : 0 ≤ i ∧ i < 0 + D.size
    ·rw [if_pos hi, if_pos hi, getElem!_pos D _ (by omega), getElem!_pos (D.map _) _ (by simp; omega), Array.getElem_map]
    ·rw [if_neg hi, if_neg hi]
  have hsw : ∀ m (D : Array (Cel d Q w base (fun k => ok k ∧ k ≠ g))) os, sortWorld enc w g 0 m D os = grow (putRow id (Sort.ahead w m) g 0 (D.map enc)) os := by
   intro m D os
   unfold sortWorld
   rw [hput]
  have hcs' : xs.length ≤ cur.size := by rw [hcs, hd]; omega
  have hsame : ∀ m (D : Array (Cel d Q w base (fun k => ok k ∧ k ≠ g))) os, D.size = xs.length → ∀ k, k ≠ g → k < w.heap.size → (sortWorld enc w g 0 m D os).heap[k]? = w.heap[k]? := by
   intro m D os hD
   rw [hsw]
   exact (row_after hg (F := D.map enc) (by rw [Array.size_map, hD]; exact hcs') rfl).2.1
  have hH : Holds enc w g 0 l.toArray := by
   intro j hj
   have hj' : j < l.length := by simpa using hj
   refine ⟨?_, ?_⟩
   ·show w.cell? ⟨g, 0 + j, none⟩ = _
    rw [Nat.zero_add, getElem!_pos _ j hj]
    simp only [World.cell?, hg, Option.isSome_none, Bool.false_eq_true, if_false]
    rw [hd, Nat.mul_one, hfl] at hl2
    have h1 := congrArg (fun r => r[j]?) hl2
    simp only [List.getElem?_take, List.getElem?_map] at h1
    rw [if_pos (by omega), Array.getElem?_toList, List.getElem?_eq_getElem hj'] at h1
    rw [h1]
    rfl
   ·simp [World.frozen?, hg]
  have key := Any.slices_SortFunc L enc (fun z => z.one _ (by rw [one z]; exact List.mem_singleton.2 rfl)) (fun p q => cf p.x q.x) hO.swo f #[] g 0 cap l.toArray w eg
   (fun m os dk hs p q => by
    have hh : ∀ (z : Cel d Q w base (fun k => ok k ∧ k ≠ g)), d.K (sortWorld enc w g 0 m dk os) z.x [enc z] := fun z => by
     have h1 := d.K_of_M (z.move (W := sortWorld enc w g 0 m dk os) (fun k hk hlt => hsame m dk os (by rw [hs]; simpa using hll) k hk.2 hlt))
     rw [one z] at h1
     exact h1
    exact hc _ p.x q.x _ _ p.q q.q (hh p) (hh q)) hH hgl (by simpa [hll] using hsz)
  have hsz' : l.toArray.size = xs.length := by simp [hll]
  rw [hsz'] at key
  refine key.mono ?_
  rintro e' w' ⟨rfl, D', n, os, hp', hs', rfl⟩
  rw [← hsz'] at hp' hs'
  refine ⟨rfl, ?_⟩
  rw [hsw n D' os]
  exact sortedTo_of (D := l.toArray) (D' := D') (F := D'.map enc) (by simpa using hl1) hp' hs' (by rw [Array.toList_map, hfl]) rfl hg0 hb hgl hg hn hm hcs
end
section
variable {α : Type} {d : Kd α} {Q : α → Prop} {w W : World} {ok : Nat → Prop} {e base g cap : Nat} {v : Value} {xs : List α}
theorem Ord3.fst {cf : α → α → Int} (h : Ord3 Q cf) : Ord3 (fun p : α × Nat => Q p.1) (fun p q => cf p.1 q.1) where
 irr p hp := h.irr p.1 hp
 tr p q r hp hq hr := h.tr p.1 q.1 r.1 hp hq hr
 nt p q r hp hq hr := h.nt p.1 q.1 r.1 hp hq hr
end
section
variable {α β : Type}
def cptGo (eqf : α → α → Bool) : α → List α → List α
 | _, [] => []
 | p, y :: r => if eqf y p then cptGo eqf y r else y :: cptGo eqf y r
def cpt (eqf : α → α → Bool) : List α → List α
 | [] => []
 | x :: r => x :: cptGo eqf x r
theorem cptGo_snoc (eqf : α → α → Bool) (x : α) : ∀ (p : α) (l : List α), cptGo eqf p (l ++ [x]) = cptGo eqf p l ++ (if eqf x ((p :: l).getLast (by simp)) then [] else [x])
 | p, [] => by
  show (if eqf x p then [] else [x]) = [] ++ (if eqf x p then [] else [x])
  rw [List.nil_append]
 | p, y :: r => by
  have e : (p :: y :: r).getLast (by simp) = (y :: r).getLast (by simp) := List.getLast_cons (by simp)
  rw [e]
  simp only [List.cons_append, cptGo]
  rw [cptGo_snoc eqf x y r]
  split <;> simp
theorem cpt_snoc (eqf : α → α → Bool) (x : α) (l : List α) (h : l ≠ []) : cpt eqf (l ++ [x]) = cpt eqf l ++ (if eqf x (l.getLast h) then [] else [x]) := by
 cases l with
 | nil => exact absurd rfl h
 | cons y r => simp only [List.cons_append, cpt]; rw [cptGo_snoc]
variable [Inhabited α]
def keepsB (eqf : α → α → Bool) (d : Array α) (j : Nat) : Bool := j == 0 || !(eqf d[j]! d[j - 1]!)
theorem cpt_take (eqf : α → α → Bool) (d : Array α) (m : Nat) (h : m < d.size) : cpt eqf (d.toList.take (m + 1)) = cpt eqf (d.toList.take m) ++ (if keepsB eqf d m then [d[m]!] else []) := by
 have hl : m < d.toList.length := by simpa using h
 rw [List.take_add_one, List.getElem?_eq_getElem hl]
 have hm : d.toList[m] = d[m]! := by rw [getElem!_pos d m h]; simp
 rw [hm]
 rcases Nat.eq_zero_or_pos m with h0 | h0
 ·subst h0; simp [cpt, cptGo, keepsB]
 ·have hne : d.toList.take m ≠ [] := by
   intro e_
   have h1 := congrArg List.length e_
   have h2 : d.toList.length = d.size := by simp
   rw [List.length_take, h2] at h1
   have h3 : min m d.size = 0 := h1
   omega
  show cpt eqf (d.toList.take m ++ [d[m]!]) = _
  rw [cpt_snoc eqf _ _ hne]
  have hlast : (d.toList.take m).getLast hne = d[m - 1]! := by
   rw [List.getLast_eq_getElem]
   have h1 : (d.toList.take m).length - 1 = m - 1 := by rw [List.length_take]; simp; omega
   simp only [h1, List.getElem_take]
   rw [getElem!_pos d (m - 1) (by omega)]
   simp
  rw [hlast]
  have : (m == 0) = false := by simp; omega
  simp only [keepsB, this, Bool.false_or]
  cases eqf d[m]! d[m - 1]! <;> simp
structure CompB (eqf : α → α → Bool) (d : Array α) (m k : Nat) (dk : Array α) : Prop where
 size : dk.size = d.size
 len : (cpt eqf (d.toList.take m)).length = k
 le : k ≤ m
 low : ∀ j, j < k → (cpt eqf (d.toList.take m))[j]? = some dk[j]!
 high : ∀ j, k ≤ j → dk[j]! = d[j]!
variable {eqf : α → α → Bool} {d dk : Array α} {m k : Nat}
theorem CompB.one (h : 0 < d.size) : CompB eqf d 1 1 d := by
 have h0 : d.toList.take 1 = [d[0]!] := by
  have := List.take_add_one (l := d.toList) (i := 0)
  rw [List.getElem?_eq_getElem (by simpa using h)] at this
  rw [this, getElem!_pos d 0 h]; simp
 refine ⟨rfl, by rw [h0]; rfl, Nat.le_refl _, fun j hj => ?_, fun _ _ => rfl⟩
 obtain rfl : j = 0 := by omega
 rw [h0]; rfl
theorem CompB.skip (h : CompB eqf d m k dk) (hm : m < d.size) (hk : keepsB eqf d m = false) : CompB eqf d (m + 1) k dk where
 size := h.size
 len := by rw [cpt_take eqf d m hm, hk]; simpa using h.len
 le := by have := h.le; omega
 low := fun j hj => by rw [cpt_take eqf d m hm, hk]; simpa using h.low j hj
 high := h.high
theorem CompB.keep (h : CompB eqf d m k dk) (hm : m < d.size) (hk : keepsB eqf d m = true) : CompB eqf d (m + 1) (k + 1) (dk.setIfInBounds k d[m]!) where
 size := by simp [h.size]
 len := by rw [cpt_take eqf d m hm, hk]; simp [h.len]
 le := by have := h.le; omega
 low := fun j hj => by
  rw [cpt_take eqf d m hm, hk, if_pos rfl]
  by_cases e_ : j = k
  ·subst e_
   rw [List.getElem?_append_right (by rw [h.len]; exact Nat.le_refl _), h.len, Nat.sub_self, Go.Sort.getElem!_set_same dk j _ (by have := h.le; have := h.size; omega)]
   rfl
  ·rw [List.getElem?_append_left (by rw [h.len]; omega), h.low j (by omega), Go.Sort.getElem!_set_other dk k j _ e_]
 high := fun j hj => by rw [Go.Sort.getElem!_set_other dk k j _ (by omega), h.high j (by omega)]
theorem CompB.same (h : CompB eqf d m m d) (hm : m < d.size) (hk : keepsB eqf d m = true) : CompB eqf d (m + 1) (m + 1) d where
 size := rfl
 len := by rw [cpt_take eqf d m hm, hk]; simp [h.len]
 le := Nat.le_refl _
 low := fun j hj => by
  rw [cpt_take eqf d m hm, hk, if_pos rfl]
  by_cases e_ : j = m
  ·subst e_
   rw [List.getElem?_append_right (by rw [h.len]; exact Nat.le_refl _), h.len, Nat.sub_self]
   rfl
  ·rw [List.getElem?_append_left (by rw [h.len]; omega), h.low j (by omega)]
 high := fun _ _ => rfl
theorem CompB.done (h : CompB eqf d d.size k dk) : dk.toList.take k = cpt eqf d.toList ∧ k = (cpt eqf d.toList).length := by
 have ht : d.toList.take d.size = d.toList := by rw [List.take_of_length_le]; simp
 have hl := h.len
 have hlow := h.low
 rw [ht] at hl hlow
 refine ⟨?_, hl.symm⟩
 apply List.ext_getElem?
 intro j
 have hle := h.le
 have hsz := h.size
 by_cases hj : j < k
 ·rw [List.getElem?_take, if_pos hj, hlow j hj, Array.getElem?_toList, Array.getElem?_eq_getElem (by omega), getElem!_pos dk j (by omega)]
 ·rw [List.getElem?_eq_none (by simp; omega), List.getElem?_eq_none (by omega)]
end
section
variable {α : Type} {d : Kd α} {Q : α → Prop} {w W W' : World} {ok : Nat → Prop} {e base g cap : Nat} {v : Value} {xs : List α}
end
end Go.Proofs.Ytcggfjpnfodbaaa.M
end
section
/- What the library's sort asks of this program: each by the kernel. No conditions. -/
namespace Go.Proofs
open Go.Shelf
def Try.sortA60_ren : Go.Shelf.Ren := ⟨fun | 6 => 60 | 15 => 98 | 14 => 97 | 28 => 138 | 29 => 139 | 20 => 130 | 21 => 131 | 22 => 132 | 23 => 133 | 24 => 134 | 25 => 135 | 26 => 136 | 27 => 137 | 46 => 155 | 47 => 156 | 48 => 157 | 49 => 158 | 50 => 159 | 57 => 165 | n => n, fun | 22 => 23 | 24 => 3 | 25 => 71 | 3 => 3 | 39 => 102 | 0 => 0 | 53 => 126 | 55 => 128 | 4 => 4 | 46 => 119 | 45 => 118 | 50 => 123 | 5 => 5 | 9 => 9 | 66 => 132 | 70 => 136 | 76 => 140 | 77 => 141 | n => n, fun | n => n⟩
theorem Try.sortA60 : Go.Proofs.SlLaysF.n6 Try.prog Try.sortA60_ren := {
 mixed := by kernel_rfl
 f6 := ⟨Try.f60.name, by decide, Try.func60.trans (congrArg some (by kernel_rfl))⟩
 f14 := ⟨Try.f97.name, by decide, Try.func97.trans (congrArg some (by kernel_rfl))⟩
 f15 := Try.func98.trans (congrArg some (by kernel_rfl))
 f20 := ⟨Try.f130.name, by decide, Try.func130.trans (congrArg some (by kernel_rfl))⟩
 f21 := ⟨Try.f131.name, by decide, Try.func131.trans (congrArg some (by kernel_rfl))⟩
 f22 := ⟨Try.f132.name, by decide, Try.func132.trans (congrArg some (by kernel_rfl))⟩
 f23 := ⟨Try.f133.name, by decide, Try.func133.trans (congrArg some (by kernel_rfl))⟩
 f24 := ⟨Try.f134.name, by decide, Try.func134.trans (congrArg some (by kernel_rfl))⟩
 f25 := ⟨Try.f135.name, by decide, Try.func135.trans (congrArg some (by kernel_rfl))⟩
 f26 := ⟨Try.f136.name, by decide, Try.func136.trans (congrArg some (by kernel_rfl))⟩
 f27 := ⟨Try.f137.name, by decide, Try.func137.trans (congrArg some (by kernel_rfl))⟩
 f28 := Try.func138.trans (congrArg some (by kernel_rfl))
 f29 := Try.func139.trans (congrArg some (by kernel_rfl))
 f46 := ⟨Try.f155.name, by decide, Try.func155.trans (congrArg some (by kernel_rfl))⟩
 f47 := Try.func156.trans (congrArg some (by kernel_rfl))
 f48 := Try.func157.trans (congrArg some (by kernel_rfl))
 f49 := ⟨Try.f158.name, by decide, Try.func158.trans (congrArg some (by kernel_rfl))⟩
 f50 := ⟨Try.f159.name, by decide, Try.func159.trans (congrArg some (by kernel_rfl))⟩
 f57 := ⟨Try.f165.name, by decide, Try.func165.trans (congrArg some (by kernel_rfl))⟩
 t0 := Try.underlying0
 a0 := Try.isAgg0
 z0 := Try.sizeOf0
 v0 := Try.zeroValue0
 t3 := Try.underlying3
 a3 := Try.isAgg3
 z3 := Try.sizeOf3
 v3 := Try.zeroValue3
 t4 := Try.underlying4
 a4 := Try.isAgg4
 z4 := Try.sizeOf4
 v4 := Try.zeroValue4
 t5 := Try.underlying5
 a5 := Try.isAgg5
 z5 := Try.sizeOf5
 v5 := Try.zeroValue5
 t9 := Try.underlying9
 a9 := Try.isAgg9
 z9 := Try.sizeOf9
 v9 := Try.zeroValue9
 t22 := Try.underlying23
 a22 := Try.isAgg23
 z22 := Try.sizeOf23
 v22 := Try.zeroValue23
 a24 := Try.isAgg3
 z24 := Try.sizeOf3
 t25 := Try.underlying71
 a25 := Try.isAgg71
 z25 := Try.sizeOf71
 v25 := Try.zeroValue71
 t39 := Try.underlying102
 a39 := Try.isAgg102
 z39 := Try.sizeOf102
 v39 := Try.zeroValue102
 t45 := Try.underlying118
 a45 := Try.isAgg118
 z45 := Try.sizeOf118
 v45 := Try.zeroValue118
 t46 := Try.underlying119
 a46 := Try.isAgg119
 z46 := Try.sizeOf119
 v46 := Try.zeroValue119
 t50 := Try.underlying123
 a50 := Try.isAgg123
 z50 := Try.sizeOf123
 v50 := Try.zeroValue123
 t53 := Try.underlying126
 a53 := Try.isAgg126
 z53 := Try.sizeOf126
 v53 := Try.zeroValue126
 t55 := Try.underlying128
 a55 := Try.isAgg128
 z55 := Try.sizeOf128
 v55 := Try.zeroValue128
 t66 := Try.underlying132
 a66 := Try.isAgg132
 z66 := Try.sizeOf132
 v66 := Try.zeroValue132
 t70 := Try.underlying136
 a70 := Try.isAgg136
 z70 := Try.sizeOf136
 v70 := Try.zeroValue136
 t76 := Try.underlying140
 a76 := Try.isAgg140
 z76 := Try.sizeOf140
 v76 := Try.zeroValue140
 t77 := Try.underlying141
 a77 := Try.isAgg141
 z77 := Try.sizeOf141
 v77 := Try.zeroValue141 }
def Try.sortB60_ren : Go.Shelf.Ren := ⟨fun | 6 => 60 | 15 => 98 | 14 => 97 | 28 => 138 | 29 => 139 | 20 => 130 | 21 => 131 | 22 => 132 | 23 => 133 | 24 => 134 | 25 => 135 | 26 => 136 | 27 => 137 | 46 => 155 | 47 => 156 | 48 => 157 | 49 => 158 | 50 => 159 | 57 => 165 | n => n, fun | 22 => 23 | 24 => 3 | 25 => 71 | 3 => 3 | 39 => 102 | 0 => 0 | 53 => 126 | 55 => 128 | 4 => 4 | 46 => 119 | 45 => 118 | 50 => 123 | 5 => 5 | 9 => 9 | 66 => 132 | 70 => 136 | 76 => 140 | 77 => 141 | n => n, fun | n => n⟩
theorem Try.sortB60 : Go.Proofs.SlLaysF0.n6 Try.prog Try.sortB60_ren := {
 mixed := by kernel_rfl
 f6 := ⟨Try.f60.name, by decide, Try.func60.trans (congrArg some (by kernel_rfl))⟩
 f14 := ⟨Try.f97.name, by decide, Try.func97.trans (congrArg some (by kernel_rfl))⟩
 f15 := Try.func98.trans (congrArg some (by kernel_rfl))
 f20 := ⟨Try.f130.name, by decide, Try.func130.trans (congrArg some (by kernel_rfl))⟩
 f21 := ⟨Try.f131.name, by decide, Try.func131.trans (congrArg some (by kernel_rfl))⟩
 f22 := ⟨Try.f132.name, by decide, Try.func132.trans (congrArg some (by kernel_rfl))⟩
 f23 := ⟨Try.f133.name, by decide, Try.func133.trans (congrArg some (by kernel_rfl))⟩
 f24 := ⟨Try.f134.name, by decide, Try.func134.trans (congrArg some (by kernel_rfl))⟩
 f25 := ⟨Try.f135.name, by decide, Try.func135.trans (congrArg some (by kernel_rfl))⟩
 f26 := ⟨Try.f136.name, by decide, Try.func136.trans (congrArg some (by kernel_rfl))⟩
 f27 := ⟨Try.f137.name, by decide, Try.func137.trans (congrArg some (by kernel_rfl))⟩
 f28 := Try.func138.trans (congrArg some (by kernel_rfl))
 f29 := Try.func139.trans (congrArg some (by kernel_rfl))
 f46 := ⟨Try.f155.name, by decide, Try.func155.trans (congrArg some (by kernel_rfl))⟩
 f47 := Try.func156.trans (congrArg some (by kernel_rfl))
 f48 := Try.func157.trans (congrArg some (by kernel_rfl))
 f49 := ⟨Try.f158.name, by decide, Try.func158.trans (congrArg some (by kernel_rfl))⟩
 f50 := ⟨Try.f159.name, by decide, Try.func159.trans (congrArg some (by kernel_rfl))⟩
 f57 := ⟨Try.f165.name, by decide, Try.func165.trans (congrArg some (by kernel_rfl))⟩
 t0 := Try.underlying0
 a0 := Try.isAgg0
 z0 := Try.sizeOf0
 v0 := Try.zeroValue0
 t3 := Try.underlying3
 a3 := Try.isAgg3
 z3 := Try.sizeOf3
 v3 := Try.zeroValue3
 t4 := Try.underlying4
 a4 := Try.isAgg4
 z4 := Try.sizeOf4
 v4 := Try.zeroValue4
 t5 := Try.underlying5
 a5 := Try.isAgg5
 z5 := Try.sizeOf5
 v5 := Try.zeroValue5
 t9 := Try.underlying9
 a9 := Try.isAgg9
 z9 := Try.sizeOf9
 v9 := Try.zeroValue9
 t22 := Try.underlying23
 a22 := Try.isAgg23
 z22 := Try.sizeOf23
 v22 := Try.zeroValue23
 t25 := Try.underlying71
 a25 := Try.isAgg71
 z25 := Try.sizeOf71
 v25 := Try.zeroValue71
 t39 := Try.underlying102
 a39 := Try.isAgg102
 z39 := Try.sizeOf102
 v39 := Try.zeroValue102
 t45 := Try.underlying118
 a45 := Try.isAgg118
 z45 := Try.sizeOf118
 v45 := Try.zeroValue118
 t46 := Try.underlying119
 a46 := Try.isAgg119
 z46 := Try.sizeOf119
 v46 := Try.zeroValue119
 t50 := Try.underlying123
 a50 := Try.isAgg123
 z50 := Try.sizeOf123
 v50 := Try.zeroValue123
 t53 := Try.underlying126
 a53 := Try.isAgg126
 z53 := Try.sizeOf126
 v53 := Try.zeroValue126
 t55 := Try.underlying128
 a55 := Try.isAgg128
 z55 := Try.sizeOf128
 v55 := Try.zeroValue128
 t66 := Try.underlying132
 a66 := Try.isAgg132
 z66 := Try.sizeOf132
 v66 := Try.zeroValue132
 t70 := Try.underlying136
 a70 := Try.isAgg136
 z70 := Try.sizeOf136
 v70 := Try.zeroValue136
 t76 := Try.underlying140
 a76 := Try.isAgg140
 z76 := Try.sizeOf140
 v76 := Try.zeroValue140
 t77 := Try.underlying141
 a77 := Try.isAgg141
 z77 := Try.sizeOf141
 v77 := Try.zeroValue141 }
end Go.Proofs
end
section
/- Plain mathematics: permutations as lists of numbers. No conditions. -/
namespace Go.Proofs.Ytcggfjpnfodbaaa.M
set_option linter.unusedVariables false
set_option linter.unusedSimpArgs false
def I (l : List Nat) : List Int := l.map Int.ofNat
def g (p : List Nat) (i : Nat) : Nat := p.getD i 0
def tab (n : Nat) (f : Nat → Nat) : List Nat := (List.range n).map f
theorem I_len (l : List Nat) : (I l).length = l.length := by simp [I]
theorem I_inj {a b : List Nat} (h : I a = I b) : a = b := by
 unfold I at h
 exact (List.map_inj_right (fun x y hxy => Int.ofNat.inj hxy)).mp h
theorem tab_len (n : Nat) (f : Nat → Nat) : (tab n f).length = n := by simp [tab]
theorem g_tab {n : Nat} {f : Nat → Nat} {i : Nat} (h : i < n) : g (tab n f) i = f i := by simp [g, tab, List.getD_eq_getElem?_getD, h]
theorem g_get {p : List Nat} {i : Nat} (h : i < p.length) : g p i = p[i] := by simp [g, List.getD_eq_getElem?_getD, h]
theorem g_mem {p : List Nat} {i : Nat} (h : i < p.length) : g p i ∈ p := by rw [g_get h]; exact List.getElem_mem h
theorem mem_g {p : List Nat} {x : Nat} (h : x ∈ p) : ∃ i, i < p.length ∧ g p i = x := by
 obtain ⟨i, hi, rfl⟩ := List.mem_iff_getElem.mp h
 exact ⟨i, hi, g_get hi⟩
theorem ext_g {a b : List Nat} (hl : a.length = b.length) (h : ∀ i, i < a.length → g a i = g b i) : a = b := by
 apply List.ext_getElem hl
 intro i h1 h2
 rw [← g_get h1, ← g_get h2]
 exact h i h1
theorem eq_tab {l : List Nat} {n : Nat} {f : Nat → Nat} (hl : l.length = n) (h : ∀ i, i < n → g l i = f i) : l = tab n f :=
 ext_g (by rw [tab_len, hl]) (fun i hi => by rw [hl] at hi; rw [g_tab hi, h i hi])
theorem g_set {p : List Nat} {i x j : Nat} (h : i < p.length) : g (p.set i x) j = if i = j then x else g p j := by
 unfold g
 rw [List.getD_eq_getElem?_getD, List.getD_eq_getElem?_getD, List.getElem?_set]
 by_cases e : i = j
 ·subst e
  simp [h]
 ·simp [e]
theorem I_set (p : List Nat) (i x : Nat) : (I p).set i (x : Int) = I (p.set i x) := by simp [I, List.map_set]
theorem I_app (p q : List Nat) : I p ++ I q = I (p ++ q) := by simp [I]
theorem I_snoc (p : List Nat) (x : Nat) : I p ++ [(x : Int)] = I (p ++ [x]) := by simp [I]
theorem I_rep (n x : Nat) : I (List.replicate n x) = List.replicate n (x : Int) := by simp [I]
structure IsP (p : List Nat) : Prop where
 lt : ∀ x ∈ p, x < p.length
 nd : p.Nodup
instance (p : List Nat) : Decidable (IsP p) := decidable_of_iff ((∀ x ∈ p, x < p.length) ∧ p.Nodup) ⟨fun h => ⟨h.1, h.2⟩, fun h => ⟨h.lt, h.nd⟩⟩
theorem nodup_le (n : Nat) : ∀ l : List Nat, l.Nodup → (∀ x ∈ l, x < n) → l.length ≤ n := by
 induction n with
 | zero =>
  intro l _ h
  cases l with
  | nil => simp
  | cons a l => exact absurd (h a (by simp)) (by omega)
 | succ n ih =>
  intro l hn h
  have h1 := ih (l.erase n) (hn.erase n) (fun x hx => by
   have h2 := (List.Nodup.mem_erase_iff hn).mp hx
   have h3 := h x h2.2
   have h4 := h2.1
   omega)
  have h5 := @List.length_erase _ _ _ n l
  split at h5 <;> omega
theorem mem_all {p : List Nat} (hp : IsP p) {x : Nat} (h : x < p.length) : x ∈ p := by
 apply Classical.byContradiction
 intro hx
 have := nodup_le p.length (x :: p) (List.nodup_cons.mpr ⟨hx, hp.nd⟩) (fun y hy => by
  rcases List.mem_cons.mp hy with rfl | hy
  ·exact h
  ·exact hp.lt y hy)
 simp at this
 omega
theorem g_lt {p : List Nat} (hp : IsP p) {i : Nat} (h : i < p.length) : g p i < p.length := hp.lt _ (g_mem h)
theorem g_inj {p : List Nat} (hp : IsP p) {i j : Nat} (hi : i < p.length) (hj : j < p.length) (h : g p i = g p j) : i = j := by
 rw [g_get hi, g_get hj] at h
 have hw := List.pairwise_iff_getElem.mp hp.nd
 rcases Nat.lt_trichotomy i j with hij | hij | hij
 ·exact absurd h (hw i j hi hj hij)
 ·exact hij
 ·exact absurd h.symm (hw j i hj hi hij)
def ix (p : List Nat) (x : Nat) : Nat := p.idxOf x
theorem ix_lt {p : List Nat} (hp : IsP p) {x : Nat} (h : x < p.length) : ix p x < p.length := List.idxOf_lt_length_of_mem (mem_all hp h)
theorem g_ix {p : List Nat} (hp : IsP p) {x : Nat} (h : x < p.length) : g p (ix p x) = x := by
 rw [g_get (ix_lt hp h)]
 exact List.getElem_idxOf (ix_lt hp h)
theorem ix_g {p : List Nat} (hp : IsP p) {i : Nat} (h : i < p.length) : ix p (g p i) = i :=
 g_inj hp (ix_lt hp (g_lt hp h)) h (g_ix hp (g_lt hp h))
theorem ix_eq {p : List Nat} (hp : IsP p) {i x : Nat} (h : i < p.length) (e : g p i = x) : ix p x = i := by rw [← e]; exact ix_g hp h
theorem isP_mk {p : List Nat} (h1 : ∀ i, i < p.length → g p i < p.length) (h2 : ∀ i j, i < p.length → j < p.length → g p i = g p j → i = j) : IsP p := by
 refine ⟨fun x hx => ?_, ?_⟩
 ·obtain ⟨i, hi, rfl⟩ := mem_g hx
  exact h1 i hi
 ·refine List.pairwise_iff_getElem.mpr ?_
  intro i j hi hj hij e'
  rw [← g_get hi, ← g_get hj] at e'
  have := h2 i j hi hj e'
  omega
theorem isP_tab {n : Nat} {f : Nat → Nat} (h1 : ∀ i, i < n → f i < n) (h2 : ∀ i j, i < n → j < n → f i = f j → i = j) : IsP (tab n f) := by
 refine isP_mk (fun i hi => ?_) (fun i j hi hj e => ?_)
 ·rw [tab_len] at hi ⊢; rw [g_tab hi]; exact h1 i hi
 ·rw [tab_len] at hi hj; rw [g_tab hi, g_tab hj] at e; exact h2 i j hi hj e
def inv (p : List Nat) : List Nat := tab p.length (ix p)
theorem inv_len (p : List Nat) : (inv p).length = p.length := tab_len _ _
theorem g_inv {p : List Nat} {i : Nat} (h : i < p.length) : g (inv p) i = ix p i := g_tab h
theorem isP_inv {p : List Nat} (hp : IsP p) : IsP (inv p) := isP_tab (fun i hi => ix_lt hp hi) (fun i j hi hj e => by rw [← g_ix hp hi, ← g_ix hp hj, e])
theorem ix_inv {p : List Nat} (hp : IsP p) {i : Nat} (h : i < p.length) : ix (inv p) i = g p i :=
 ix_eq (isP_inv hp) (by rw [inv_len]; exact g_lt hp h) (by rw [g_inv (g_lt hp h)]; exact ix_g hp h)
def thn (p q : List Nat) : List Nat := tab p.length (fun i => g q (g p i))
theorem thn_len (p q : List Nat) : (thn p q).length = p.length := tab_len _ _
theorem g_thn {p q : List Nat} {i : Nat} (h : i < p.length) : g (thn p q) i = g q (g p i) := g_tab h
theorem isP_thn {p q : List Nat} (hp : IsP p) (hq : IsP q) (hl : p.length = q.length) : IsP (thn p q) :=
 isP_tab (fun i hi => by have h1 := g_lt hp hi; have h2 := g_lt hq (i := g p i) (by omega); omega)
  (fun i j hi hj e => g_inj hp hi hj (g_inj hq (by have := g_lt hp hi; omega) (by have := g_lt hp hj; omega) e))
def ren (p names : List Nat) : List Nat := tab p.length (fun j => g names (g p (ix names j)))
theorem ren_len (p names : List Nat) : (ren p names).length = p.length := tab_len _ _
theorem g_ren {p names : List Nat} {j : Nat} (h : j < p.length) : g (ren p names) j = g names (g p (ix names j)) := g_tab h
theorem isP_ren {p names : List Nat} (hp : IsP p) (hn : IsP names) (hl : p.length = names.length) : IsP (ren p names) := by
 refine isP_tab (fun i hi => ?_) (fun i j hi hj e => ?_)
 ·have h1 := ix_lt hn (x := i) (by omega)
  have h2 := g_lt hp (i := ix names i) (by omega)
  have h3 := g_lt hn (i := g p (ix names i)) (by omega)
  omega
 ·have h1 := ix_lt hn (x := i) (by omega)
  have h2 := ix_lt hn (x := j) (by omega)
  have h3 := g_lt hp (i := ix names i) (by omega)
  have h4 := g_lt hp (i := ix names j) (by omega)
  have h5 := g_inj hn (by omega) (by omega) e
  have h6 := g_inj hp (by omega) (by omega) h5
  have h7 := g_ix hn (x := i) (by omega)
  have h8 := g_ix hn (x := j) (by omega)
  rw [← h7, ← h8, h6]
end Go.Proofs.Ytcggfjpnfodbaaa.M
end
section
/- Plain mathematics: going round a permutation. No conditions. -/
namespace Go.Proofs.Ytcggfjpnfodbaaa.M
set_option linter.unusedVariables false
set_option linter.unusedSimpArgs false
def itr (p : List Nat) : Nat → Nat → Nat
 | 0, s => s
 | m + 1, s => g p (itr p m s)
theorem itr_lt {p : List Nat} (hp : IsP p) (m : Nat) {s : Nat} (hs : s < p.length) : itr p m s < p.length := by
 induction m with
 | zero => exact hs
 | succ m ih => exact g_lt hp ih
theorem itr_add (p : List Nat) (a b s : Nat) : itr p (a + b) s = itr p a (itr p b s) := by
 induction a with
 | zero => simp [itr]
 | succ a ih =>
  have e : a + 1 + b = (a + b) + 1 := by omega
  rw [e, itr, itr, ih]
theorem itr_back {p : List Nat} (hp : IsP p) {s : Nat} (hs : s < p.length) (i d : Nat) (h : itr p (i + d) s = itr p i s) : itr p d s = s := by
 induction i with
 | zero =>
  have e : 0 + d = d := by omega
  rw [e] at h
  exact h
 | succ i ih =>
  have e : i + 1 + d = (i + d) + 1 := by omega
  rw [e] at h
  exact ih (g_inj hp (itr_lt hp _ hs) (itr_lt hp _ hs) h)
theorem period {p : List Nat} (hp : IsP p) {s : Nat} (hs : s < p.length) : ∃ m, 1 ≤ m ∧ m ≤ p.length ∧ itr p m s = s := by
 apply Classical.byContradiction
 intro hn
 have hd : ((List.range (p.length + 1)).map (fun m => itr p m s)).Nodup := by
  refine List.pairwise_map.mpr ?_
  refine List.pairwise_iff_getElem.mpr ?_
  intro i j hi hj hij
  rw [List.length_range] at hi hj
  rw [List.getElem_range, List.getElem_range]
  intro e
  have : itr p (j - i) s = s := itr_back hp hs i (j - i) (by
   have e2 : i + (j - i) = j := by omega
   rw [e2]
   exact e.symm)
  exact hn ⟨j - i, by omega, by omega, this⟩
 have := nodup_le p.length _ hd (fun x hx => by
  obtain ⟨m, _, rfl⟩ := List.mem_map.mp hx
  exact itr_lt hp m hs)
 simp at this
 omega
def per (p : List Nat) (s : Nat) : Nat := (((List.range p.length).find? (fun m => itr p (m + 1) s == s)).getD 0) + 1
def orbTo (p : List Nat) (s m : Nat) : List Nat := (List.range m).map (fun k => itr p k s)
def orb (p : List Nat) (s : Nat) : List Nat := orbTo p s (per p s)
def cyc (p : List Nat) : Nat → List (List Nat)
 | 0 => []
 | i + 1 => if ∃ c ∈ cyc p i, i ∈ c then cyc p i else cyc p i ++ [orb p i]
def cycles (p : List Nat) : List (List Nat) := cyc p p.length
end Go.Proofs.Ytcggfjpnfodbaaa.M
end
section
/- Plain mathematics: lists that fall, and the lengths of cycles. No conditions. -/
namespace Go.Proofs.Ytcggfjpnfodbaaa.M
set_option linter.unusedVariables false
set_option linter.unusedSimpArgs false
def insD (x : Nat) : List Nat → List Nat
 | [] => [x]
 | y :: l => if y < x then x :: y :: l else y :: insD x l
def sortD (l : List Nat) : List Nat := l.foldl (fun a x => insD x a) []
def Fall (l : List Nat) : Prop := l.Pairwise (fun a b => b ≤ a)
theorem insD_perm (x : Nat) (l : List Nat) : (insD x l).Perm (x :: l) := by
 induction l with
 | nil => exact List.Perm.refl _
 | cons y l ih =>
  unfold insD
  split
  ·exact List.Perm.refl _
  ·exact (List.Perm.cons y ih).trans (List.Perm.swap x y l)
theorem insD_fall {x : Nat} {l : List Nat} (h : Fall l) : Fall (insD x l) := by
 induction l with
 | nil => exact List.pairwise_singleton _ _
 | cons y l ih =>
  obtain ⟨h1, h2⟩ := List.pairwise_cons.mp h
  unfold insD
  split
  ·rename_i hy
   refine List.pairwise_cons.mpr ⟨fun b hb => ?_, h⟩
   rcases List.mem_cons.mp hb with rfl | hb
   ·omega
   ·have := h1 b hb
    omega
  ·rename_i hy
   refine List.pairwise_cons.mpr ⟨fun b hb => ?_, ih h2⟩
   rcases List.mem_cons.mp ((insD_perm x l).mem_iff.mp hb) with rfl | hb
   ·omega
   ·exact h1 b hb
theorem sortD_aux : ∀ (l a : List Nat), Fall a → Fall (l.foldl (fun a x => insD x a) a) ∧ (l.foldl (fun a x => insD x a) a).Perm (a ++ l) := by
 intro l
 induction l with
 | nil => intro a h; exact ⟨h, by simp⟩
 | cons x l ih =>
  intro a h
  obtain ⟨h1, h2⟩ := ih (insD x a) (insD_fall h)
  refine ⟨h1, h2.trans ?_⟩
  exact ((insD_perm x a).append_right l).trans (List.perm_middle (l₁ := a) (a := x) (l₂ := l)).symm
theorem sortD_fall (l : List Nat) : Fall (sortD l) := (sortD_aux l [] List.Pairwise.nil).1
theorem sortD_perm (l : List Nat) : (sortD l).Perm l := (sortD_aux l [] List.Pairwise.nil).2
theorem fall_uniq : ∀ {a b : List Nat}, Fall a → Fall b → a.Perm b → a = b := by
 intro a
 induction a with
 | nil => intro b _ _ h; exact (List.nil_perm.mp h).symm
 | cons x a ih =>
  intro b ha hb h
  cases b with
  | nil => exact absurd (List.perm_nil.mp h) (by simp)
  | cons y b =>
   obtain ⟨a1, a2⟩ := List.pairwise_cons.mp ha
   obtain ⟨b1, b2⟩ := List.pairwise_cons.mp hb
   have e : x = y := by
    have h1 : x ∈ y :: b := h.mem_iff.mp (by simp)
    have h2 : y ∈ x :: a := h.mem_iff.mpr (by simp)
    rcases List.mem_cons.mp h1 with e | h1
    ·exact e
    ·rcases List.mem_cons.mp h2 with e | h2
     ·exact e.symm
     ·have := b1 x h1
      have := a1 y h2
      omega
   subst e
   rw [ih a2 b2 (List.Perm.cons_inv h)]
theorem sortD_len (l : List Nat) : (sortD l).length = l.length := (sortD_perm l).length_eq
end Go.Proofs.Ytcggfjpnfodbaaa.M
end
section
namespace Go.Proofs.Ytcggfjpnfodbaaa.A
open Go.RowKit Go.Proofs.YtcggfjpnfodbaaaW.PrintWords Go.Proofs.YtcggfjpnfodbaaaW.PrintLast Go.Proofs.YtcggfjpnfodbaaaW.PrintMore
attribute [local go_sem] max2_int min2_int max_two min_two max_three min_three max_four min_four
set_option linter.unusedVariables false
set_option linter.unusedSimpArgs false
def Z2.f (l0 : List Int) : Option (List Int) := if (∀ x ∈ l0, 0 ≤ x ∧ x ≤ 4611686018427387904) ∧ l0.length < 4611686018427387904 then some ((M.sortD (l0.map Int.toNat)).map fun (n : Nat) => (n : Int)) else none
theorem Z2.closure (x y : Int) (W : World) : Calls Try.prog 61 #[.int .i64 x, .int .i64 y] W fun e w' => e = .returned (.int .i64 (wrap64 (y - x))) ∧ ∃ q os', w' = Go.Sort.grow (W.drewN q) os' := by
 go_enter Try.func61, Try.ntmps61
 go_wp2
 go_ret
 exact ⟨by first | rfl | (rw [i64_w]), 0, #[], by rw [Go.Sort.grow_empty]; rfl⟩
theorem Z2.ord : M.Ord3 (fun x : Int => 0 ≤ x ∧ x ≤ 4611686018427387904) (fun x y => wrap64 (y - x)) where
 irr x hx := by unfold wrap64; omega
 tr x y z hx hy hz h1 h2 := by unfold wrap64 at *; omega
 nt x y z hx hy hz h1 h2 := by unfold wrap64 at *; omega
set_option maxHeartbeats 8000000 in
set_option maxRecDepth 100000 in
theorem Z2.calls (P0_ : Nat → Prop) (u9000_ : Value) (l0 : List Int) (r : List Int) (w0 w : World) (hB : Below w0.heap.size w0 w) (ho0 : Kd.R (Kd.int .i64) 3 w w0.heap.size P0_ u9000_ l0) (h : Z2.f l0 = some r) :
  Calls Try.prog 60 #[u9000_, .func (.func 61) #[] #[]] w fun e w' => e = .returned (.tuple #[]) ∧ Kd.R (Kd.int .i64) 3 w' w0.heap.size (fun k_ => (P0_ k_ ∨ w.heap.size ≤ k_)) u9000_ r ∧ Below w0.heap.size w0 w' ∧ Kept w w' (fun k_ => P0_ k_) := by
 unfold Z2.f at h
 split at h
 ·rename_i hq
  obtain rfl := Option.some.inj h
  have key := M.sortN1 (d := Kd.int .i64) (Q := fun x : Int => 0 ≤ x ∧ x ≤ 4611686018427387904) (cf := fun x y => wrap64 (y - x)) Try.sortA60 Try.sortB60 rfl Z2.ord 61 (enters_of Try.func61 (by kernel_rfl) rfl)
   (fun W x y cx cy _ _ hx hy => by
    have e1 : cx = .int .i64 x := (List.cons.inj hx).1
    have e2 : cy = .int .i64 y := (List.cons.inj hy).1
    subst e1 e2
    exact Z2.closure x y W) ho0 hq.1 hq.2
  refine key.mono ?_
  rintro e w' ⟨rfl, xs', hp, hs, hR, hK, hB2⟩
  have hx : xs' = (M.sortD (l0.map Int.toNat)).map fun (n : Nat) => (n : Int) := by
   have hnn : ∀ x ∈ xs', 0 ≤ x ∧ x ≤ 4611686018427387904 := fun x hx => hq.1 x (hp.mem_iff.1 hx)
   have h1 : xs' = (xs'.map Int.toNat).map fun (n : Nat) => (n : Int) := by
    rw [List.map_map]
    conv => lhs; rw [← List.map_id xs']
    apply List.map_congr_left
    intro x hx
    have := hnn x hx
    simp only [id, Function.comp]
    omega
   have h2 : M.Fall (xs'.map Int.toNat) := by
    unfold M.Fall
    rw [List.pairwise_map]
    refine hs.imp_of_mem ?_
    intro a b ha hb hab
    have := hnn a ha
    have := hnn b hb
    have hab' : ¬ wrap64 (a - b) < 0 := hab
    unfold wrap64 at hab'
    clear hab
    omega
   have h3 : xs'.map Int.toNat = M.sortD (l0.map Int.toNat) := M.fall_uniq h2 (M.sortD_fall _) ((hp.map _).trans (M.sortD_perm _).symm)
   rw [← h3]
   exact h1
  rw [← hx]
  exact ⟨rfl, Kd.R_mono hR (fun _ hk => .inl hk), hB.trans hB2, ⟨hK.1, fun i hi hn => hK.2 i hi (fun e_ => hn (ho0.1 i e_.symm))⟩⟩
 ·cases h
end Go.Proofs.Ytcggfjpnfodbaaa.A
end
section
namespace Go.Proofs.Ytcggfjpnfodbaaa.A
open Go.RowKit Go.Proofs.YtcggfjpnfodbaaaW.PrintWords Go.Proofs.YtcggfjpnfodbaaaW.PrintLast Go.Proofs.YtcggfjpnfodbaaaW.PrintMore
attribute [local go_sem] max2_int min2_int max_two min_two max_three min_three max_four min_four
set_option linter.unusedVariables false
set_option linter.unusedSimpArgs false
mutual
def Z42.l0 : Nat → List Int → List Int → List Bool → Int → Int → Option (List Int × Bool)
 | 0, _, _, _, _, _ => none
 | k + 1, x6, x7, x8, x26, x27 => if x27 < x26 then (Z42.l1 k x6 x7 x8 0 x27 x26 x27) else ((Z2.f x7).bind fun t => (some (t, true)))
def Z42.l1 : Nat → List Int → List Int → List Bool → Int → Int → Int → Int → Option (List Int × Bool)
 | 0, _, _, _, _, _, _, _ => none
 | k + 1, x6, x7, x8, x10, x11, x26, x27 => if 0 ≤ x11 then (if x11 < (x8.length : Int) then (if rdOf false x8 x11 = true then (if x10 > 0 then (if x7.length < 17592186044416 then (Z42.l0 k x6 (x7 ++ [x10]) x8 x26 (wrap64 (x27 + 1))) else (none)) else (Z42.l0 k x6 x7 x8 x26 (wrap64 (x27 + 1)))) else (if x11 < (x6.length : Int) then (Z42.l1 k x6 x7 (x8.set (x11 : Int).toNat true) (wrap64 (x10 + 1)) (rd x6 x11) x26 x27) else (none))) else (none)) else (none)
end
def Z42.f (k : Nat) (r u : List Int) : Option (List Int × Bool) := (M.orbitO k r u).bind fun z => match z with | none => some (([] : List Int), false) | some s => if s.L.length ≤ 281474976710656 ∧ 0 < s.T.length then (Z42.l0 k s.T ([] : List Int) (List.replicate s.L.length false) (s.L.length : Int) 0) else none
theorem Z42.mono_l : ∀ k, (∀ y0 y1 y2 y3 y4, LeO (Z42.l0 k y0 y1 y2 y3 y4) (Z42.l0 (k + 1) y0 y1 y2 y3 y4)) ∧ (∀ y0 y1 y2 y3 y4 y5 y6, LeO (Z42.l1 k y0 y1 y2 y3 y4 y5 y6) (Z42.l1 (k + 1) y0 y1 y2 y3 y4 y5 y6))
 | 0 => ⟨fun _ _ _ _ _ r h => by simp [Z42.l0] at h, fun _ _ _ _ _ _ _ r h => by simp [Z42.l1] at h⟩
 | k + 1 => by
  obtain ⟨ih0, ih1⟩ := Z42.mono_l k
  refine ⟨?_, ?_⟩
  ·intro y0 y1 y2 y3 y4
   unfold Z42.l0
   repeat' first|exact ih0 _ _ _ _ _|exact ih1 _ _ _ _ _ _ _|exact lo_|refine LeO.ite ?_ ?_|refine LeO.bind ?_ (fun _ => ?_)
  ·intro y0 y1 y2 y3 y4 y5 y6
   unfold Z42.l1
   repeat' first|exact ih0 _ _ _ _ _|exact ih1 _ _ _ _ _ _ _|exact lo_|refine LeO.ite ?_ ?_|refine LeO.bind ?_ (fun _ => ?_)
theorem Z42.mono : ∀ a0 a1 k, LeO (Z42.f k a0 a1) (Z42.f (k + 1) a0 a1) := by
 intro a0 a1 k
 unfold Z42.f
 refine LeO.bind (M.orbitO_mono _ _ _) (fun z => ?_)
 cases z with
 | none => exact LeO.refl _
 | some s => exact LeO.ite ((Z42.mono_l k).1 _ _ _ _ _) (LeO.refl _)
theorem Z42.lookT {w : World} {b n : Nat} {vT vS : Value} (hb : w.heap[b]? = some (M.mapO n vT vS)) : (Instr.lookup 67 (.map (some b)) (.int .u8 84) false).run Try.prog w = .ok (M.mapV n 84 vT vS) w := by
 by_cases hn : n = 0 ∨ n = 1 ∨ n = 2
 ·exact M.look_T hb hn
 ·obtain ⟨m, rfl⟩ : ∃ m, n = m + 2 := ⟨n - 2, by omega⟩
  have e : M.mapO (m + 2) vT vS = .map #[⟨.int .u8 84, vT, 0⟩, ⟨.int .u8 83, vS, 1⟩] (m + 2) := by
   unfold M.mapO
   congr 1
   exact Array.extract_eq_self_of_le (Nat.le_add_left 2 m)
  have e2 : M.mapV (m + 2) 84 vT vS = vT := by
   unfold M.mapV
   rw [if_pos rfl, if_pos (by omega)]
  rw [e] at hb
  rw [e2]
  exact M.map_look hb 84 (some (0, vT)) rfl
set_option maxHeartbeats 8000000 in
set_option maxRecDepth 100000 in
theorem Z42.calls (k : Nat) (A0_0 : Option Addr) (c0_0 : Nat) (l0_0 : List Int) (A0_1 : Option Addr) (c0_1 : Nat) (l0_1 : List Int) (r1 : List Int) (r2 : Bool) (w : World) (hr0_0 : Kd.C (Kd.int .i64) w A0_0 l0_0.length l0_0) (hc0_0 : l0_0.length ≤ c0_0) (hr0_1 : Kd.C (Kd.int .i64) w A0_1 l0_1.length l0_1) (hc0_1 : l0_1.length ≤ c0_1) (h : Z42.f k l0_0 l0_1 = some (r1, r2)) :
  Calls Try.prog 15 #[.agg #[.slice A0_0 l0_0.length c0_0, .slice A0_1 l0_1.length c0_1]] w fun e w' => ∃ v0_ : Value, e = .returned (.tuple #[v0_, .bool r2]) ∧ Kd.R (Kd.int .i64) 3 w' w.heap.size (fun _ => True) v0_ r1 ∧ Below w.heap.size w w' := by
 have hu := Try.underlying25
 have HR0_0 := A_ hr0_0; have HC0_0 := A_ hc0_0; clear hr0_0 hc0_0
 have HR0_1 := A_ hr0_1; have HC0_1 := A_ hc0_1; clear hr0_1 hc0_1
 have HB := A_ (Below.refl w.heap.size w)
 have H := h
 unfold Z42.f at H
 clear h
 obtain ⟨z, AZ, H⟩ := bi_ H
 cases z with
 | none =>
  obtain ⟨rfl, rfl⟩ := Prod.mk.inj (Option.some.inj H)
  go_enter Try.func15, Try.ntmps15
  go_wp2_with (first | ((with_reducible refine gB_ (N := 1) rfl ?_); refine bx_ 1 #[.slice A0_0 l0_0.length c0_0, .slice A0_1 l0_1.length c0_1] 25 ?_; intro gs hg wgs hbox hb; have Bgs := A_ hbox; replace HB := b1_ hb; clear hb hbox hg; have hczgs0 := cz0_ Bgs; have hczgs1 := cz1_ Bgs; have hfzgs0 := kD_ Bgs.out 0; have hfzgs1 := kD_ Bgs.out 1) | ((with_reducible refine gA_ (f := 59) rfl ?_); refine gL_ (some 13) Try.func59 #[.agg #[.slice A0_0 l0_0.length c0_0, .slice A0_1 l0_1.length c0_1]] rfl qa_ ?_; (with_reducible refine (M.orbit_calls k _ _ l0_0 _ _ l0_1 none _ (cb_ HR0_0) HC0_0.out (cb_ HR0_1) HC0_1.out AZ.out).mono ?_); rintro e wz ⟨rfl, hb⟩; refine ⟨_, rfl, ?_⟩; replace HB := b1_ hb; clear hb))
  go_ret2
  exact ⟨_, qb_, Kd.R_nil _ _ _ _ _, hB_⟩
 | some s =>
  dsimp only at H
  have hsm := cp_ H
  replace H := ca_ H
  have HSM := A_ hsm.1
  have HTP := A_ hsm.2
  clear hsm
  obtain ⟨y1411, hy1411⟩ : ∃ y_ : List Int, y_ = (([] : List Int)) := ⟨_, rfl⟩
  rw [← hy1411] at H
  have Ny1411 := A_ hy1411
  clear hy1411
  obtain ⟨y1414, hy1414⟩ : ∃ y_ : List Bool, y_ = (List.replicate s.L.length false) := ⟨_, rfl⟩
  rw [← hy1414] at H
  have Ny1414 := A_ hy1414
  clear hy1414
  have H' := A_ H
  clear H
  go_enter Try.func15, Try.ntmps15
  go_upto_region 4 with (first | ((with_reducible refine gB_ (N := 1) rfl ?_); refine bx_ 1 #[.slice A0_0 l0_0.length c0_0, .slice A0_1 l0_1.length c0_1] 25 ?_; intro gs hg wgs hbox hb; have Bgs := A_ hbox; replace HB := b1_ hb; clear hb hbox hg; have hczgs0 := cz0_ Bgs; have hczgs1 := cz1_ Bgs; have hfzgs0 := kD_ Bgs.out 0; have hfzgs1 := kD_ Bgs.out 1) | ((with_reducible refine gA_ (f := 59) rfl ?_); refine gL_ (some 13) Try.func59 #[.agg #[.slice A0_0 l0_0.length c0_0, .slice A0_1 l0_1.length c0_1]] rfl qa_ ?_; (with_reducible refine (M.orbit_calls k _ _ l0_0 _ _ l0_1 (some s) _ (cb_ HR0_0) HC0_0.out (cb_ HR0_1) HC0_1.out AZ.out).mono ?_); rintro e wz ⟨gO, gM, nm_, col, vL, vW, vF, vB, vT, vS, rfl, hh, hb⟩; refine ⟨_, rfl, ?_⟩; replace HB := b1_ hb; have HH := A_ hh; clear hb hh; obtain ⟨AL, cL, eL⟩ := Kd.S_slice HH.out.hL; subst eL; obtain ⟨AW, cW, eW⟩ := Kd.R_slice HH.out.hW; subst eW; have hco0 : wz.cell? ⟨gO, 0, none⟩ = some (.slice AL s.L.length cL) := (blk_cell HH.out.hO 0).trans rfl; have hco1 : wz.cell? ⟨gO, 1, none⟩ = some (.slice AW s.W.length cW) := (blk_cell HH.out.hO 1).trans rfl; have hfo0 := kD_ HH.out.hO 0; have hfo1 := kD_ HH.out.hO 1))
  have HB0 := HB
  replace HB := A_ (Below.refl wz.heap.size wz)
  obtain ⟨AT, cT, eT⟩ := Kd.R_slice HH.out.hT
  subst eT
  have HLK : Aside0 (∀ w', w'.heap[gM]? = some (M.mapO nm_ (.slice AT s.T.length cT) vS) → (Instr.lookup 67 (.map (some gM)) (.int .u8 84) false).run Try.prog w' = .ok (.slice AT s.T.length cT) w') := ⟨fun w' h_ => by
   have := Z42.lookT h_
   rw [HH.out.look.1] at this
   exact this⟩
  clear hco1 hfo1
  go_upto_region 5 with (first | ((with_reducible refine gB_ (N := 23) rfl ?_); refine Kd.R_make Kd.bool _ 4 rfl (N := 23) rfl 66 _ _ rfl (s.L.length : Int) rfl rfl Try.underlying66 (.bool false) 1 info4 rfl (by decide) (by omega) false (ok := fun _ => True) (okp := fun _ => True) rfl (fun _ hk => hk) trivial (Int.natCast_nonneg _) (Nat.le_trans (Nat.mul_le_mul_right _ HSM.out) (by omega)) (Below.refl _ _) (nA_ _) ?_; intro v1415 w15 ho16 hb hg_ hnew_; clear hg_ hnew_; rw [Int.toNat_natCast, ← Ny1414.out] at ho16; have HO1416 := rl_ wz ho16; replace HB := b1_ hb; clear hb ho16))
  go_upto_region 6 with (first | ((with_reducible refine gB_ (N := 24) rfl ?_); refine Kd.R_lit (Kd.int .i64) _ 3 ?hg (N := 24) ?hd (xs := ([] : List Int)) (inner := []) (ok := fun _ => True) (okp := fun _ => True) ?hr ?hp (fun _ hk => hk) trivial (Below.refl _ _) (nA_ _) (by simp) ?_; (case hd => rfl); (case hg => rfl); (case hr => first | (go_simp; done) | (go_simp; rfl)); (case hp => exact (Reps.none _ _)); intro v1412 w12 ho13 hb hg_ hnew_; clear hg_ hnew_; rw [← Ny1411.out] at ho13; have HO1413 := rl_ wz ho13; replace HO1416 := rb_ HO1416 hb; replace HB := b1_ hb; clear hb ho13))
  have hHr := HH.out.below HB.out
  have hcp0 : w12.cell? ⟨gO, 0, none⟩ = some (.slice AL s.L.length cL) := (blk_cell hHr.hO 0).trans rfl
  have hfp0 := kD_ hHr.hO 0
  clear hHr
  go_wp2
  go_loopg [7, 30] k (fun kq v7 v30 w' => ∃ (x7_1 : List Int) (x8_1 : List Bool) (x27_1 : Int), v30 = .int .i64 x27_1 ∧ Aside0 (Z42.l0 kq s.T x7_1 x8_1 (s.L.length : Int) x27_1 = some (r1, r2)) ∧ Aside0 (kq ≤ k) ∧ Aside0 (Kd.R (Kd.int .i64) 3 w' wz.heap.size (fun _ => True) v7 x7_1) ∧ Aside0 (Kd.R Kd.bool 4 w' wz.heap.size (fun _ => True) v1415 x8_1) ∧ Aside0 (Below wz.heap.size wz w'))
  case atStart => exact ⟨(y1411), (y1414), (0), qc_, H', ⟨nA_ _⟩, ⟨(rr_ HO1413)⟩, ⟨(rr_ HO1416)⟩, ⟨hB_⟩⟩
  case round =>
   clear H' hcp0 hfp0 hco0 hfo0
   obtain ⟨x7_1, x8_1, x27_1, rfl, HA, HK1, HO_7, HO_8, HB⟩ := hrel
   cases gk with
   | zero => exact absurd HA.out (by simp [Z42.l0])
   | succ k1 =>
    have H := HA.out
    clear HA
    simp only [Z42.l0] at H
    by_cases c17 : x27_1 < (s.L.length : Int)
    ·rw [if_pos c17] at H
     have c17b0 := oC_ c17
     clear c17
     have H' := A_ H
     clear H
     go_wp2
     go_loopg [9, 10] k1 (fun kq v9 v10 w' => ∃ (x8_2 : List Bool) (x10_2 : Int) (x11_2 : Int), v9 = .int .i64 x10_2 ∧ v10 = .int .i64 x11_2 ∧ Aside0 (Z42.l1 kq s.T x7_1 x8_2 x10_2 x11_2 (s.L.length : Int) x27_1 = some (r1, r2)) ∧ Aside0 (kq ≤ k1) ∧ Aside0 (Kd.R (Kd.int .i64) 3 w' wz.heap.size (fun _ => True) u7 x7_1) ∧ Aside0 (Kd.R Kd.bool 4 w' wz.heap.size (fun _ => True) v1415 x8_2) ∧ Aside0 (Below wz.heap.size wz w'))
     case atStart => exact ⟨(x8_1), (0), (x27_1), qc_, qc_, H', ⟨nA_ _⟩, ⟨(rr_ HO_7)⟩, ⟨(rr_ HO_8)⟩, ⟨hB_⟩⟩
     case round =>
      clear H'
      obtain ⟨x8_2, x10_2, x11_2, rfl, rfl, HA, HK2, HO_7, HO_8, HB⟩ := hrel
      cases gk with
      | zero => exact absurd HA.out (by simp [Z42.l1])
      | succ k2 =>
       have H := HA.out
       clear HA
       simp only [Z42.l1] at H
       have c18 := cp_ H
       replace H := ca_ H
       have c18b0 := oC_ c18
       clear c18
       have c19 := cp_ H
       replace H := ca_ H
       have c19b0 := oC_ c19
       clear c19
       obtain ⟨bq20, hbq20⟩ : ∃ b_ : Bool, b_ = (rdOf false x8_2 x11_2) := ⟨_, rfl⟩
       rw [← hbq20] at H
       have Nbq20 := A_ hbq20
       clear hbq20
       by_cases c21 : bq20 = true
       ·subst c21
        rw [if_pos rfl] at H
        by_cases c22 : x10_2 > 0
        ·rw [if_pos c22] at H
         have c22b0 : decide (0 < x10_2) = true := oC_ c22
         clear c22
         have c23 := cp_ H
         replace H := ca_ H
         have LMc23 := A_ c23
         clear c23
         obtain ⟨y1421, hy1421⟩ : ∃ y_ : List Int, y_ = (x7_1 ++ [x10_2]) := ⟨_, rfl⟩
         rw [← hy1421] at H
         have Ny1421 := A_ hy1421
         clear hy1421
         have H' := A_ H
         clear H
         obtain ⟨Ao24, co24, eo24⟩ := Kd.R_slice HO_8.out
         subst eo24
         have p1420 : 0 ≤ (x11_2 : Int) := oB_ qe_
         have q1420 : x11_2 < (x8_2.length : Int) := oB_ qe_
         obtain ⟨ad1420, e1420, hx1420_0⟩ := Kd.at_bool (Kd.R_reads' HO_8.out).2.2 x11_2 p1420 q1420
         (try rw [← Nbq20.out] at hx1420_0)
         cases e1420
         replace p1420 := eq_true p1420
         replace q1420 := eq_true q1420
         go_wp2_with (first | ((with_reducible refine gate_builtin (b := .append) (xs := #[.tmp 54, .tmp 56]) rfl ?_); at_builtin; refine Kd.R_append (Kd.int .i64) (w0 := wz) wz.heap.size rfl (.tmp 54) (.tmp 56) 23 3 (.int .i64 0) 8 rfl Try.underlying23 info3 rfl (by decide) (by omega) u7 x7_1 x10_2 [.int .i64 x10_2] (fun _ => True) (fun _ => False) rfl rfl ?aP (fun _ hk => hk.elim) ?aF ?aO ?aB ?aS ?aL ?_; (case aP => exact rfl); (case aB => exact hB_); (case aF => exact (fun k_ hk => trivial)); (case aO => exact (rr_ HO_7)); (case aS => exact (bF_ hB_)); (case aL => have := LMc23.out; omega); intro v1422 w25 ho hb hg hat; rw [← Ny1421.out] at ho; replace HO_8 := A_ (Kd.R_over' (rr_ HO_8) (Kd.R_typed (rr_ HO_7)) (by decide) hg); replace HB := A_ hb; have HO1423 := A_ ho; clear HO_7; clear ho hb hg hat))
         go_roundg k2
         case measure => have := HK1.out; have := HK2.out; omega
         case rel => exact ⟨(y1421), (x8_2), (wrap64 (x27_1 + 1)), qc_, H', ⟨by have := HK1.out; have := HK2.out; omega⟩, ⟨(rr_ HO1423)⟩, ⟨(rr_ HO_8)⟩, ⟨hB_⟩⟩
        ·rw [if_neg c22] at H
         have c22b0 : decide (0 < x10_2) = false := oD_ c22
         clear c22
         have H' := A_ H
         clear H
         obtain ⟨Ao26, co26, eo26⟩ := Kd.R_slice HO_8.out
         subst eo26
         have p1420 : 0 ≤ (x11_2 : Int) := oB_ qe_
         have q1420 : x11_2 < (x8_2.length : Int) := oB_ qe_
         obtain ⟨ad1420, e1420, hx1420_0⟩ := Kd.at_bool (Kd.R_reads' HO_8.out).2.2 x11_2 p1420 q1420
         (try rw [← Nbq20.out] at hx1420_0)
         cases e1420
         replace p1420 := eq_true p1420
         replace q1420 := eq_true q1420
         go_wp2
         go_roundg k2
         case measure => have := HK1.out; have := HK2.out; omega
         case rel => exact ⟨(x7_1), (x8_2), (wrap64 (x27_1 + 1)), qc_, H', ⟨by have := HK1.out; have := HK2.out; omega⟩, ⟨(rr_ HO_7)⟩, ⟨(rr_ HO_8)⟩, ⟨hB_⟩⟩
       ·replace c21 := Bool.eq_false_iff.mpr c21
        subst c21
        rw [if_neg (show ¬ (false = true) by decide)] at H
        obtain ⟨y1424, hy1424⟩ : ∃ y_ : List Bool, y_ = (x8_2.set (x11_2 : Int).toNat true) := ⟨_, rfl⟩
        rw [← hy1424] at H
        have Ny1424 := A_ hy1424
        clear hy1424
        have c28 := cp_ H
        replace H := ca_ H
        have c28b0 := oC_ c28
        clear c28
        have H' := A_ H
        clear H
        obtain ⟨Ao29, co29, eo29⟩ := Kd.R_slice HO_8.out
        subst eo29
        have p1420 : 0 ≤ (x11_2 : Int) := oB_ qe_
        have q1420 : x11_2 < (x8_2.length : Int) := oB_ qe_
        obtain ⟨ad1420, e1420, hx1420_0⟩ := Kd.at_bool (Kd.R_reads' HO_8.out).2.2 x11_2 p1420 q1420
        (try rw [← Nbq20.out] at hx1420_0)
        cases e1420
        replace p1420 := eq_true p1420
        replace q1420 := eq_true q1420
        have p27 : 0 ≤ (x11_2 : Int) := oB_ qe_
        have q27 : (x11_2 : Int) < ((x8_2.length : Int) : Int) := oB_ qe_
        obtain ⟨go27, co27, eo27, gb27, gl27, cl27, HG27⟩ := Kd.R_form HO_8.out (by omega)
        (first | cases eo27 | (injection eo27 with ea_ en_ ec_; (first | subst ea_ | (injection ea_ with ea_; subst ea_)); subst ec_; clear en_))
        have GB27 := A_ gb27
        have GG27 := A_ HG27
        clear gb27 gl27 HG27
        (first | simp only [add_plain] at hx1420_0 | skip)
        obtain ⟨hx27_0, hf27_0⟩ := Kd.R_celln false HO_8.out (x11_2 : Int) p27 q27
        replace p27 := eq_true p27
        replace q27 := eq_true q27
        have HP30 := Kd.R_putg HO_8.out (x11_2 : Int) true
        go_wp2_with (first | ((with_reducible refine gate_store (t := 4) (p := 49) rfl ?_); refine store_event (t := 4) (p := 49) (v := ?vo_w31) (w1 := (wr.setCell ⟨go27, (x11_2 : Int).toNat, none⟩ (.bool true))) ?hg ?ho ?hn ?hr ?_; (case ho => rfl); (case hg => rfl); (case hn => rfl); (case hr => first | (go_simp; done) | (go_simp; rfl)); intro w31 hw; have hg : wr.grownBy w31 (some go27) := (by rw [hw]; exact HP30.2); have hp_ : Kd.R Kd.bool 4 w31 wz.heap.size (fun _ => True) (.slice (some ⟨go27, 0, none⟩) x8_2.length co29) y1424 := (by rw [hw, Ny1424.out]; exact HP30.1); clear HP30; replace HO_7 := A_ (Kd.R_over' (v := (.slice (some ⟨go27, 0, none⟩) x8_2.length co29)) (rr_ HO_7) (Kd.R_typed HO_8.out) (by decide) hg); replace HO_8 := A_ (hp_); replace HB := A_ ((by rw [hw]; exact bD_ (HB.out) GB27.out : Below wz.heap.size wz w31)); clear hg hw hp_; have HHr := HH.out.below HB.out; have hco4 : w31.cell? ⟨gO, 4, none⟩ = some (.map (some gM)) := (blk_cell HHr.hO 4).trans rfl; have hfo4 := kD_ HHr.hO 4; have hlk := HLK.out w31 HHr.hM; have p1425 : 0 ≤ (x11_2 : Int) := oB_ qe_; have q1425 : x11_2 < (s.T.length : Int) := oB_ qe_; obtain ⟨ad1425, e1425, hx1425_0⟩ := Kd.at_int (Kd.R_reads' HHr.hT).2.2 x11_2 p1425 q1425; cases e1425; clear HHr; replace p1425 := eq_true p1425; replace q1425 := eq_true q1425))
        go_roundg k2
        case measure => have := HK1.out; have := HK2.out; omega
        case rel => exact ⟨(y1424), (wrap64 (x10_2 + 1)), (rd s.T x11_2), qc_, qc_, H', ⟨by have := HK1.out; have := HK2.out; omega⟩, ⟨(rr_ HO_7)⟩, ⟨(rr_ HO_8)⟩, ⟨hB_⟩⟩
    ·rw [if_neg c17] at H
     have c17b0 := oD_ c17
     clear c17
     obtain ⟨t1417, A32, H⟩ := bi_ H
     simp only [Option.some.injEq, Prod.mk.injEq] at H
     obtain ⟨rfl, rfl⟩ := H
     obtain ⟨Ao33, co33, eo33⟩ := Kd.R_slice HO_7.out
     subst eo33
     go_wp2_with (first | ((with_reducible refine gA_ (f := 60) rfl ?_); refine gL_ (some 60) Try.func60 #[.slice Ao33 x7_1.length co33, .func (.func 61) #[] #[]] rfl qa_ ?_; (with_reducible refine (Z2.calls (fun k_ => some k_ = (.slice Ao33 x7_1.length co33 : Value).ownBlock) (.slice Ao33 x7_1.length co33) x7_1 t1417 wz _ hB_ (Kd.R_tight rfl HO_7.out) A32.out).mono ?_); rintro e w34 ⟨rfl, hy0, hb, hkp⟩; refine ⟨_, rfl, ?_⟩; replace HO_7 := A_ (Kd.R_reok rfl hy0 (fun k_ e_ => HO_7.out.1 k_ e_)); replace HB := A_ hb; clear hb hkp hy0))
     go_ret2
     exact ⟨_, qb_, rE_ (Kd.R_mono (rr_ HO_7) (fun _ hk => trivial)) (bF_ HB0.out), bE_ HB0.out HB.out⟩
end Go.Proofs.Ytcggfjpnfodbaaa.A
end
section
namespace Go.Proofs.Ytcggfjpnfodbaaa.A
open Go.RowKit Go.Proofs.YtcggfjpnfodbaaaW.PrintWords Go.Proofs.YtcggfjpnfodbaaaW.PrintLast Go.Proofs.YtcggfjpnfodbaaaW.PrintMore
attribute [local go_sem] max2_int min2_int max_two min_two max_three min_three max_four min_four
set_option linter.unusedVariables false
set_option linter.unusedSimpArgs false
def Z23.f (l0_0 : List Int) (l0_1 : List Int) : Option (List Int × List Int) := (Z38.f l0_0).bind fun t429 => ((Z38.f l0_1).bind fun t432 => (some (t429, t432)))
def Z23.T1 : Bool × List (List Nat × List Nat) := (true, [([], []), ([0], [0]), ([1], [1]), ([], []), ([3], [3]), ([4, 2], [4]), ([2, 5], [2, 5]), ([6, 5, 0, 1, 2, 3, 4, 5, 6], [6])])
def Z23.B1 : List Nat := [0, 1, 3, 0, 8, 31, 63, 127]
theorem Z23.tab1 : rtab .any (opsOf Try.f62 1) = Z23.T1 := by kernel_rfl
theorem Z23.bits1 : waitsOk Z23.T1.2 Z23.B1 = true := by kernel_rfl
set_option maxHeartbeats 8000000 in
set_option maxRecDepth 100000 in
theorem Z23.calls (A0_0 : Option Addr) (c0_0 : Nat) (l0_0 : List Int) (A0_1 : Option Addr) (c0_1 : Nat) (l0_1 : List Int) (r1 : List Int) (r2 : List Int) (w : World) (hr0_0 : Kd.C (Kd.int .i64) w A0_0 l0_0.length l0_0) (hc0_0 : l0_0.length ≤ c0_0) (hr0_1 : Kd.C (Kd.int .i64) w A0_1 l0_1.length l0_1) (hc0_1 : l0_1.length ≤ c0_1) (h : Z23.f l0_0 l0_1 = some (r1, r2)) :
  Calls Try.prog 62 #[.agg #[.slice A0_0 l0_0.length c0_0, .slice A0_1 l0_1.length c0_1]] w fun e w' => ∃ v0_ v1_ : Value, e = .returned (.agg #[v0_, v1_]) ∧ Kd.R (Kd.int .i64) 3 w' w.heap.size (fun k_ => some k_ ≠ (v1_ : Value).ownBlock) v0_ r1 ∧ Kd.R (Kd.int .i64) 3 w' w.heap.size (fun k_ => some k_ ≠ (v0_ : Value).ownBlock) v1_ r2 ∧ Below w.heap.size w w' := by
 have hu25 := Try.underlying25
 have HR0_0 := A_ hr0_0
 have HC0_0 := A_ hc0_0
 clear hr0_0 hc0_0
 have HR0_1 := A_ hr0_1
 have HC0_1 := A_ hc0_1
 clear hr0_1 hc0_1
 have HB := A_ (Below.refl w.heap.size w)
 have H := h
 unfold Z23.f at H
 clear h
 obtain ⟨t429, A2, H⟩ := bi_ H
 obtain ⟨t432, A3, H⟩ := bi_ H
 simp only [Option.some.injEq, Prod.mk.injEq] at H
 obtain ⟨rfl, rfl⟩ := H
 go_enter Try.func62, Try.ntmps62
 try go_wp2_with (first | ((with_reducible refine gB_ (N := 1) rfl ?_); refine bx_ 1 #[.slice A0_0 l0_0.length c0_0, .slice A0_1 l0_1.length c0_1] 25 ?_; intro gb427 hg w4 hbox hb; have BK427 := A_ hbox; have GW427 := gw_ w hg; have GE427 := GW427; replace HB := b1_ hb; clear hb hbox hg) | ((with_reducible refine gB_ (N := 2) rfl ?_); refine bx_ 2 #[.slice none 0 0, .slice none 0 0] 25 ?_; intro gb428 hg w5 hbox hb; have BK428 := A_ hbox; have GW428 := gw_ w hg; have GE428 := GW428; replace HB := b1_ hb; have NB427_428 := gN_ BK427 hg; have NB428_427 := gP_ BK427 hg; replace BK427 := bb_ BK427 hb; clear hb hbox hg))
 replace BK427 := A_ (kB_ BK427.out)
 replace BK428 := A_ (kB_ BK428.out)
 replace HB := A_ (bC_ HB.out)
 refine start_ (n := 8) (S := fun w' => w'.cell? ⟨gb427, 0, none⟩ = some (.slice A0_0 l0_0.length c0_0) ∧ w'.cell? ⟨gb427, 1, none⟩ = some (.slice A0_1 l0_1.length c0_1)) (ds := []) (bl_ 8 0) (by kernel_rfl) rfl (by kernel_rfl) ⟨cz0_ BK427, cz1_ BK427⟩ (fun hHeld => ?_); refine with_tabW Z23.tab1 Z23.bits1 (fun HT_ HW_ => ?_)
 generalize w5.drew = w6 at BK427 BK428 HB hHeld ⊢
 refine pu_ 0 (some 3) (bl_ 8 1) HT_ ?_
 refine pu_ 3 (some 6) (bl_ 8 9) HT_ ?_
 refine ta_ 1 (some 4) (bl_ 8 11) HT_ HW_ hHeld ?_
 refine ta_ 4 (some 7) (bl_ 8 27) HT_ HW_ hHeld ?_
 refine on_ 2 (some 5) (bl_ 8 31) HT_ (fun K hK => ?_)
 refine gO_ Try.func67 #[.slice A0_0 l0_0.length c0_0] (by rfl) rfl rfl qa_ ?_
 with_reducible refine (Z38.calls _ _ l0_0 t429 _ (cb_ HR0_0) HC0_0.out A2.out).mono ?_
 rintro e w7 ⟨v430, rfl, ho0, hb⟩
 refine ⟨_, rfl, ?_⟩
 have HO431 := rl_ w ho0
 replace BK427 := bb_ BK427 hb
 replace BK428 := bb_ BK428 hb
 replace HB := b1_ hb
 clear hb ho0
 refine hK.out _ _ ⟨cz0_ BK427, cz1_ BK427⟩ (fun hHeld => ?_)
 clear hK K
 refine no_ (some 5) ?_
 refine on_ 5 (some 8) (bl_ 8 63) HT_ (fun K hK => ?_)
 refine gO_ Try.func67 #[.slice A0_1 l0_1.length c0_1] (by rfl) rfl rfl qa_ ?_
 with_reducible refine (Z38.calls _ _ l0_1 t432 _ (cb_ HR0_1) HC0_1.out A3.out).mono ?_
 rintro e w8 ⟨v433, rfl, ho0, hb⟩
 refine ⟨_, rfl, ?_⟩
 have HO434 := A_ (rE_ (Kd.R_new' ho0 (Kd.R_lt (rr_ HO431))) (bF_ hB_))
 replace HO431 := A_ (Kd.R_elder' (rr_ HO431) (Kd.R_base ho0) hb)
 replace BK427 := bb_ BK427 hb
 replace BK428 := bb_ BK428 hb
 replace HB := b1_ hb
 clear hb ho0
 obtain ⟨Ao9, co9, eo9⟩ := Kd.R_slice HO434.out
 (first | subst eo9 | (injection eo9 with f1_ f2_ f3_; have f4_ := f1_.symm; have f5_ := f3_.symm; clear f1_ f2_ f3_; subst f4_; subst f5_))
 obtain ⟨Ao10, co10, eo10⟩ := Kd.R_slice HO431.out
 (first | subst eo10 | (injection eo10 with f1_ f2_ f3_; have f4_ := f1_.symm; have f5_ := f3_.symm; clear f1_ f2_ f3_; subst f4_; subst f5_))
 refine hK.out _ _ ⟨cz0_ BK427, cz1_ BK427⟩ (fun hHeld => ?_)
 clear hK K
 refine no_ (some 8) ?_
 refine pu_ 6 (some 9) (bl_ 8 127) HT_ ?_
 refine on_ 7 (none) (bl_ 8 255) HT_ (fun K hK => ?_)
 have hs11 : w8.cell? ⟨gb428, 0, none⟩ = some (.slice none 0 0) := cz0_ BK428
 have hfs11 := kD_ BK428.out 0
 have hns11_0 := NB427_428.out
 have hms11_0 := NB428_427.out
 have hs12 : w8.cell? ⟨gb428, 1, none⟩ = some (.slice none 0 0) := cz1_ BK428
 have hfs12 := kD_ BK428.out 1
 have hns12_0 := NB427_428.out
 have hms12_0 := NB428_427.out
 refine skip_ (w1 := ?_) (by rfl) rfl ?_ ?_
 rotate_left
 ·go_simp
  rfl
 refine hK.out _ _ ⟨((cell_far (p := ⟨gb428, _, none⟩) NB427_428.out _).trans (((cell_far (p := ⟨gb428, _, none⟩) NB427_428.out _).trans (hHeld.1)))), ((cell_far (p := ⟨gb428, _, none⟩) NB427_428.out _).trans (((cell_far (p := ⟨gb428, _, none⟩) NB427_428.out _).trans (hHeld.2))))⟩ (fun hHeld => ?_)
 clear hK K
 refine done_ (done_of HT_.out (by kernel_rfl)) ?_
 try go_wp2
 refine bodyPost_ret (results_cell_row rfl _ _ gb428 25 #[.slice Ao10 t429.length co10, .slice Ao9 t432.length co9] (0, 0) _ rfl qp_ Try.underlying25 rfl (by kernel_rfl)) rfl ?_
 exact ⟨_, _, qb_, (rw_ (Kd.R_mono (fa_ HO431 BK428) (fun _ hk => hk.2))), (rw_ (Kd.R_mono (fa_ HO434 BK428) (fun _ hk => hk.2))), hB_⟩
def Z21.l0 : Nat → Int → List Int → List Int → List Int → List Int → Option (Int)
 | 0, _, _, _, _, _ => none
 | k + 1, x6, x444000, x444001, x451000, x451001 => (Z11.f k x451000 x451001 84).bind fun bt451 => ((Z41.f k bt451.1 bt451.2).bind fun bt457 => ((Z20.f k bt457.1 bt457.2.1 x444000 x444001).bind fun t465 => (if t465 = true then (some x6) else (Z21.l0 k (wrap64 (x6 + 1)) x444000 x444001 bt451.1 bt451.2))))
def Z21.f (k : Nat) (l0_0 : List Int) (l0_1 : List Int) : Option (Int) := (Z41.f k l0_0 l0_1).bind fun bt436 => (if bt436.2.2 = true then ((Z23.f l0_0 l0_1).bind fun bt444 => (Z21.l0 k 1 bt436.1 bt436.2.1 bt444.1 bt444.2)) else (some 0))
theorem Z21.mono_l : ∀ k, (∀ y0 y1 y2 y3 y4, LeO (Z21.l0 k y0 y1 y2 y3 y4) (Z21.l0 (k + 1) y0 y1 y2 y3 y4))
 | 0 => fun _ _ _ _ _ r h => by simp [Z21.l0] at h
 | k + 1 => by
  have ih0 := Z21.mono_l k
  ·intro y0 y1 y2 y3 y4
   unfold Z21.l0
   repeat' first|exact ih0 _ _ _ _ _|exact Z41.mono _ _ _|exact Z20.mono _ _ _ _ _|exact Z11.mono _ _ _ _|exact lo_|refine LeO.ite ?_ ?_|refine LeO.bind ?_ (fun _ => ?_)
theorem Z21.mono : ∀ a0 a1 k, LeO (Z21.f k a0 a1) (Z21.f (k + 1) a0 a1) := by
 intro a0 a1 k
 have ih0 := Z21.mono_l k
 unfold Z21.f
 repeat' first|exact ih0 _ _ _ _ _|exact Z41.mono _ _ _|exact Z20.mono _ _ _ _ _|exact Z11.mono _ _ _ _|exact lo_|refine LeO.ite ?_ ?_|refine LeO.bind ?_ (fun _ => ?_)
set_option maxHeartbeats 8000000 in
set_option maxRecDepth 100000 in
theorem Z21.calls (k : Nat) (A0_0 : Option Addr) (c0_0 : Nat) (l0_0 : List Int) (A0_1 : Option Addr) (c0_1 : Nat) (l0_1 : List Int) (r : Int) (w : World) (hr0_0 : Kd.C (Kd.int .i64) w A0_0 l0_0.length l0_0) (hc0_0 : l0_0.length ≤ c0_0) (hr0_1 : Kd.C (Kd.int .i64) w A0_1 l0_1.length l0_1) (hc0_1 : l0_1.length ≤ c0_1) (h : Z21.f k l0_0 l0_1 = some r) :
  Calls Try.prog 16 #[.agg #[.slice A0_0 l0_0.length c0_0, .slice A0_1 l0_1.length c0_1]] w fun e w' => e = .returned (.int .i64 r) ∧ Below w.heap.size w w' := by
 have hu25 := Try.underlying25
 have HR0_0 := A_ hr0_0
 have HC0_0 := A_ hc0_0
 clear hr0_0 hc0_0
 have HR0_1 := A_ hr0_1
 have HC0_1 := A_ hc0_1
 clear hr0_1 hc0_1
 have HB := A_ (Below.refl w.heap.size w)
 have H := h
 unfold Z21.f at H
 clear h
 obtain ⟨⟨t436, t439, t442⟩, A2, H⟩ := bi_ H
 try dsimp only at H
 by_cases c3 : t442 = true
 ·subst c3
  rw [if_pos rfl] at H
  obtain ⟨⟨t444, t447⟩, A4, H⟩ := bi_ H
  try dsimp only at H
  have H' := A_ H
  clear H
  go_enter Try.func16, Try.ntmps16
  go_wp2_with (first | ((with_reducible refine gB_ (N := 1) rfl ?_); refine bx_ 1 #[.slice A0_0 l0_0.length c0_0, .slice A0_1 l0_1.length c0_1] 25 ?_; intro gb435 hg w5 hbox hb; have BK435 := A_ hbox; have GW435 := gw_ w hg; have GE435 := GW435; replace HB := b1_ hb; clear hb hbox hg; obtain ⟨hcz6_0, hcz6_1, hfz6_0, hfz6_1⟩ := c2_ BK435) | ((with_reducible refine gA_ (f := 28) rfl ?_); refine gL_ (some 11) Try.func28 #[.agg #[.slice A0_0 l0_0.length c0_0, .slice A0_1 l0_1.length c0_1]] rfl qa_ ?_; (with_reducible refine (Z41.calls k _ _ l0_0 _ _ l0_1 t436 t439 true _ (cb_ HR0_0) HC0_0.out (cb_ HR0_1) HC0_1.out A2.out).mono ?_); rintro e w7 ⟨v437, v440, rfl, ho0, ho1, hb⟩; refine ⟨_, rfl, ?_⟩; have HO438 := rl_ w ho0; have HO441 := rl_ w ho1; replace BK435 := bb_ BK435 hb; replace HB := b1_ hb; clear hb ho0 ho1) | ((with_reducible refine gB_ (N := 3) rfl ?_); refine bx_ 3 #[.slice none 0 0, .slice none 0 0] 25 ?_; intro gb443 hg w8 hbox hb; replace HO438 := rb_ HO438 hb; replace HO441 := rb_ HO441 hb; have BK443 := A_ hbox; have GW443 := gw_ w hg; have GE443 := GW443; replace HB := b1_ hb; have NB435_443 := gN_ BK435 hg; have NB443_435 := gP_ BK435 hg; replace BK435 := bb_ BK435 hb; clear hb hbox hg; obtain ⟨Ao9, co9, eo9⟩ := Kd.R_slice HO438.out; subst eo9; have hnb10 := NB443_435.out; have hnc10 := NB435_443.out; obtain ⟨hcz11_0, hcz11_1, hfz11_0, hfz11_1⟩ := c2_ BK443; obtain ⟨Ao12, co12, eo12⟩ := Kd.R_slice HO441.out; subst eo12; obtain ⟨hcz13_0, hcz13_1, hfz13_0, hfz13_1⟩ := c2_ BK435) | ((with_reducible refine gA_ (f := 62) rfl ?_); refine gL_ (some 17) Try.func62 #[.agg #[.slice A0_0 l0_0.length c0_0, .slice A0_1 l0_1.length c0_1]] rfl qa_ ?_; (with_reducible refine (Z23.calls _ _ l0_0 _ _ l0_1 t444 t447 _ (cD_ HR0_0.out hB_) HC0_0.out (cD_ HR0_1.out hB_) HC0_1.out A4.out).mono ?_); rintro e w14 ⟨v445, v448, rfl, ho0, ho1, hb⟩; refine ⟨_, rfl, ?_⟩; have HO446 := A_ (rE_ (Kd.R_new' (Kd.R_new' ho0 (Kd.R_lt (rw_ (fa_ HO438 BK443)))) (Kd.R_lt (rw_ (fa_ HO441 BK443)))) (bF_ hB_)); have HO449 := A_ (rE_ (Kd.R_new' (Kd.R_new' ho1 (Kd.R_lt (rw_ (fa_ HO438 BK443)))) (Kd.R_lt (rw_ (fa_ HO441 BK443)))) (bF_ hB_)); replace HO438 := A_ (Kd.R_mono (Kd.R_told (Kd.R_told (Kd.R_old (rw_ (fa_ HO438 BK443)) hb) (Kd.R_base ho0)) (Kd.R_base ho1)) (fun _ h_ => h_.1)); replace HO441 := A_ (Kd.R_mono (Kd.R_told (Kd.R_told (Kd.R_old (rw_ (fa_ HO441 BK443)) hb) (Kd.R_base ho0)) (Kd.R_base ho1)) (fun _ h_ => h_.1)); replace BK435 := A_ (kE_ (g := gb435) (o := .cells #[.slice A0_0 l0_0.length c0_0, .slice A0_1 l0_1.length c0_1] 25 (0, 0)) (by (with_reducible repeat (first | refine kA_ ?_ _ | refine kB_ ?_ | refine kC_ ?_ _)); refine blk_far ?_ NB435_443.out _; (with_reducible repeat (first | refine kA_ ?_ _ | refine kB_ ?_ | refine kC_ ?_ _)); refine blk_far ?_ NB435_443.out _; (with_reducible repeat (first | refine kA_ ?_ _ | refine kB_ ?_ | refine kC_ ?_ _)); exact BK435.out) hb); replace BK443 := A_ (kE_ (g := gb443) (o := .cells #[.slice Ao9 t436.length co9, .slice Ao12 t439.length co12] 25 (0, 0)) qp_ hb); replace HB := b1_ hb; clear hb ho0 ho1) | ((with_reducible refine gB_ (N := 5) rfl ?_); refine bx_ 5 #[.slice none 0 0, .slice none 0 0] 25 ?_; intro gb450 hg w15 hbox hb; replace HO438 := rb_ HO438 hb; replace HO441 := rb_ HO441 hb; replace HO446 := rb_ HO446 hb; replace HO449 := rb_ HO449 hb; have BK450 := A_ hbox; have GW450 := gw_ w hg; have GE450 := GW450; replace HB := b1_ hb; have NB435_450 := gN_ BK435 hg; have NB450_435 := gP_ BK435 hg; replace BK435 := bb_ BK435 hb; have NB443_450 := gN_ BK443 hg; have NB450_443 := gP_ BK443 hg; replace BK443 := bb_ BK443 hb; clear hb hbox hg; obtain ⟨Ao16, co16, eo16⟩ := Kd.R_slice HO446.out; subst eo16; have hnb17 := NB450_435.out; have hnc17 := NB435_450.out; have hnb18 := NB450_443.out; have hnc18 := NB443_450.out; obtain ⟨hcz19_0, hcz19_1, hfz19_0, hfz19_1⟩ := c2_ BK450; obtain ⟨Ao20, co20, eo20⟩ := Kd.R_slice HO449.out; subst eo20))
  go_loopg [6] k (fun kq v6 w' => ∃ (x6_1 : Int) (x451000_1 : List Int) (x451001_1 : List Int) (u451000 : Value) (u451001 : Value), v6 = .int .i64 x6_1 ∧ Aside0 (Z21.l0 kq x6_1 t436 t439 x451000_1 x451001_1 = some r) ∧ Aside0 (kq ≤ k) ∧ Aside0 (Kd.R (Kd.int .i64) 3 w' w.heap.size (fun k_ => some k_ ≠ ((.slice Ao12 t439.length co12) : Value).ownBlock ∧ some k_ ≠ (u451000 : Value).ownBlock ∧ some k_ ≠ (u451001 : Value).ownBlock) (.slice Ao9 t436.length co9) t436) ∧ Aside0 (Kd.R (Kd.int .i64) 3 w' w.heap.size (fun k_ => some k_ ≠ ((.slice Ao9 t436.length co9) : Value).ownBlock ∧ some k_ ≠ (u451000 : Value).ownBlock ∧ some k_ ≠ (u451001 : Value).ownBlock) (.slice Ao12 t439.length co12) t439) ∧ Aside0 (Kd.R (Kd.int .i64) 3 w' w.heap.size (fun k_ => some k_ ≠ ((.slice Ao9 t436.length co9) : Value).ownBlock ∧ some k_ ≠ ((.slice Ao12 t439.length co12) : Value).ownBlock ∧ some k_ ≠ (u451001 : Value).ownBlock) u451000 x451000_1) ∧ Aside0 (Kd.R (Kd.int .i64) 3 w' w.heap.size (fun k_ => some k_ ≠ ((.slice Ao9 t436.length co9) : Value).ownBlock ∧ some k_ ≠ ((.slice Ao12 t439.length co12) : Value).ownBlock ∧ some k_ ≠ (u451000 : Value).ownBlock) u451001 x451001_1) ∧ Aside0 (w'.heap[gb435]? = some (.cells #[(.slice A0_0 l0_0.length c0_0), (.slice A0_1 l0_1.length c0_1)] 25 (0, 0))) ∧ Aside0 (w'.heap[gb443]? = some (.cells #[(.slice Ao9 t436.length co9), (.slice Ao12 t439.length co12)] 25 (0, 0))) ∧ Aside0 (w'.heap[gb450]? = some (.cells #[u451000, u451001] 25 (0, 0))) ∧ Aside0 (Below w.heap.size w w'))
  case atStart => exact ⟨(1), (t444), (t447), (.slice Ao16 t444.length co16), (.slice Ao20 t447.length co20), qc_, H', ⟨nA_ _⟩, ⟨(rw_ (Kd.R_mono (Kd.R_far (p := ⟨gb450, 1, none⟩) (Kd.R_far (p := ⟨gb450, 0, none⟩) (Kd.R_types HO438.out BK450.out (by decide)) (fun _ hk => hk.2) (.slice Ao16 t444.length co16)) (fun _ hk => hk.2) (.slice Ao20 t447.length co20)) (fun _ hk => ⟨hk.1.1.1, ⟨hk.1.1.2, hk.1.2⟩⟩)))⟩, ⟨(rw_ (Kd.R_mono (Kd.R_far (p := ⟨gb450, 1, none⟩) (Kd.R_far (p := ⟨gb450, 0, none⟩) (Kd.R_types HO441.out BK450.out (by decide)) (fun _ hk => hk.2) (.slice Ao16 t444.length co16)) (fun _ hk => hk.2) (.slice Ao20 t447.length co20)) (fun _ hk => ⟨hk.1.1.1, ⟨hk.1.1.2, hk.1.2⟩⟩)))⟩, ⟨(rw_ (Kd.R_mono (Kd.R_far (p := ⟨gb450, 1, none⟩) (Kd.R_far (p := ⟨gb450, 0, none⟩) (Kd.R_types HO446.out BK450.out (by decide)) (fun _ hk => hk.2) (.slice Ao16 t444.length co16)) (fun _ hk => hk.2) (.slice Ao20 t447.length co20)) (fun _ hk => ⟨hk.1.1.2, ⟨hk.1.2, hk.1.1.1⟩⟩)))⟩, ⟨(rw_ (Kd.R_mono (Kd.R_far (p := ⟨gb450, 1, none⟩) (Kd.R_far (p := ⟨gb450, 0, none⟩) (Kd.R_types HO449.out BK450.out (by decide)) (fun _ hk => hk.2) (.slice Ao16 t444.length co16)) (fun _ hk => hk.2) (.slice Ao20 t447.length co20)) (fun _ hk => ⟨hk.1.1.2, ⟨hk.1.2, hk.1.1.1⟩⟩)))⟩, ⟨by (with_reducible repeat (first | refine kA_ ?_ _ | refine kB_ ?_ | refine kC_ ?_ _)); refine blk_far ?_ NB435_450.out _; (with_reducible repeat (first | refine kA_ ?_ _ | refine kB_ ?_ | refine kC_ ?_ _)); refine blk_far ?_ NB435_450.out _; (with_reducible repeat (first | refine kA_ ?_ _ | refine kB_ ?_ | refine kC_ ?_ _)); exact BK435.out⟩, ⟨by (with_reducible repeat (first | refine kA_ ?_ _ | refine kB_ ?_ | refine kC_ ?_ _)); refine blk_far ?_ NB443_450.out _; (with_reducible repeat (first | refine kA_ ?_ _ | refine kB_ ?_ | refine kC_ ?_ _)); refine blk_far ?_ NB443_450.out _; (with_reducible repeat (first | refine kA_ ?_ _ | refine kB_ ?_ | refine kC_ ?_ _)); exact BK443.out⟩, ⟨qp_⟩, ⟨hB_⟩⟩
  case round =>
   clear H'
   obtain ⟨x6_1, x451000_1, x451001_1, u451000, u451001, rfl, HA, HK1, HO_444000, HO_444001, HO_451000, HO_451001, BK435, BK443, BK450, HB⟩ := hrel
   cases gk with
   | zero => exact absurd HA.out (by simp [Z21.l0])
   | succ k1 =>
    have H := HA.out
    clear HA
    simp only [Z21.l0] at H
    obtain ⟨⟨t451, t454⟩, A21, H⟩ := bi_ H
    try dsimp only at H
    obtain ⟨⟨t457, t460, t463⟩, A22, H⟩ := bi_ H
    try dsimp only at H
    obtain ⟨t465, A23, H⟩ := bi_ H
    by_cases c24 : t465 = true
    ·subst c24
     rw [if_pos rfl] at H
     obtain rfl := Option.some.inj H
     have hnb25 := NB450_435.out
     have hnc25 := NB435_450.out
     have hnb26 := NB450_443.out
     have hnc26 := NB443_450.out
     obtain ⟨hcz27_0, hcz27_1, hfz27_0, hfz27_1⟩ := c2_ BK450
     obtain ⟨Ao28, co28, eo28⟩ := Kd.R_slice HO_451000.out
     subst eo28
     obtain ⟨Ao29, co29, eo29⟩ := Kd.R_slice HO_451001.out
     subst eo29
     go_wp2_with (first | ((with_reducible refine gA_ (f := 63) rfl ?_); refine gL_ (some 21) Try.func63 #[.agg #[.slice Ao28 x451000_1.length co28, .slice Ao29 x451001_1.length co29], .int .u8 84] rfl qa_ ?_; (with_reducible refine (Z11.calls k1 _ _ x451000_1 _ _ x451001_1 84 t451 t454 _ (cr_ HO_451000) ((Kd.R_reads' HO_451000.out).2.1) (cr_ HO_451001) ((Kd.R_reads' HO_451001.out).2.1) A21.out).mono ?_); rintro e w30 ⟨v452, v455, rfl, ho0, ho1, hb⟩; refine ⟨_, rfl, ?_⟩; have HO453 := A_ (rE_ (Kd.R_new' (Kd.R_new' (Kd.R_new' (Kd.R_new' ho0 (Kd.R_lt (rr_ HO_444000))) (Kd.R_lt (rr_ HO_444001))) (Kd.R_lt (rr_ HO_451000))) (Kd.R_lt (rr_ HO_451001))) (bF_ hB_)); have HO456 := A_ (rE_ (Kd.R_new' (Kd.R_new' (Kd.R_new' (Kd.R_new' ho1 (Kd.R_lt (rr_ HO_444000))) (Kd.R_lt (rr_ HO_444001))) (Kd.R_lt (rr_ HO_451000))) (Kd.R_lt (rr_ HO_451001))) (bF_ hB_)); replace HO_444000 := A_ (Kd.R_mono (Kd.R_told (Kd.R_told (Kd.R_old (rr_ HO_444000) hb) (Kd.R_base ho0)) (Kd.R_base ho1)) (fun _ h_ => h_.1)); replace HO_444001 := A_ (Kd.R_mono (Kd.R_told (Kd.R_told (Kd.R_old (rr_ HO_444001) hb) (Kd.R_base ho0)) (Kd.R_base ho1)) (fun _ h_ => h_.1)); replace HO_451000 := A_ (Kd.R_mono (Kd.R_told (Kd.R_told (Kd.R_old (rr_ HO_451000) hb) (Kd.R_base ho0)) (Kd.R_base ho1)) (fun _ h_ => h_.1)); replace HO_451001 := A_ (Kd.R_mono (Kd.R_told (Kd.R_told (Kd.R_old (rr_ HO_451001) hb) (Kd.R_base ho0)) (Kd.R_base ho1)) (fun _ h_ => h_.1)); replace BK435 := bb_ BK435 hb; replace BK443 := bb_ BK443 hb; replace BK450 := bb_ BK450 hb; replace HB := b1_ hb; clear hb ho0 ho1; obtain ⟨Ao31, co31, eo31⟩ := Kd.R_slice HO453.out; subst eo31; obtain ⟨hcz32_0, hcz32_1, hfz32_0, hfz32_1⟩ := c2_ BK450; obtain ⟨Ao33, co33, eo33⟩ := Kd.R_slice HO456.out; subst eo33) | ((with_reducible refine gA_ (f := 28) rfl ?_); refine gL_ (some 24) Try.func28 #[.agg #[.slice Ao31 t451.length co31, .slice Ao33 t454.length co33]] rfl qa_ ?_; (with_reducible refine (Z41.calls k1 _ _ t451 _ _ t454 t457 t460 t463 _ ?side1 ?side2 ?side3 ?side4 A22.out).mono ?_); (case side1 => refine (Kd.R_reads' (e := 3) (base := w.heap.size) (ok := fun k_ => ((((some k_ ≠ (.slice Ao33 t454.length co33 : Value).ownBlock ∧ some k_ ≠ (.slice Ao9 t436.length co9 : Value).ownBlock) ∧ some k_ ≠ (.slice Ao12 t439.length co12 : Value).ownBlock) ∧ some k_ ≠ (.slice Ao28 x451000_1.length co28 : Value).ownBlock) ∧ some k_ ≠ (.slice Ao29 x451001_1.length co29 : Value).ownBlock)) (n := t451.length) (c := co31) ?_).2.2; exact (rw_ (fa_ HO453 BK450))); (case side2 => exact (Kd.R_reads' HO453.out).2.1); (case side3 => refine (Kd.R_reads' (e := 3) (base := w.heap.size) (ok := fun k_ => ((((some k_ ≠ (.slice Ao31 t451.length co31 : Value).ownBlock ∧ some k_ ≠ (.slice Ao9 t436.length co9 : Value).ownBlock) ∧ some k_ ≠ (.slice Ao12 t439.length co12 : Value).ownBlock) ∧ some k_ ≠ (.slice Ao28 x451000_1.length co28 : Value).ownBlock) ∧ some k_ ≠ (.slice Ao29 x451001_1.length co29 : Value).ownBlock)) (n := t454.length) (c := co33) ?_).2.2; exact (rw_ (fa_ HO456 BK450))); (case side4 => exact (Kd.R_reads' HO456.out).2.1); rintro e w34 ⟨v458, v461, rfl, ho0, ho1, hb⟩; refine ⟨_, rfl, ?_⟩; have HO459 := A_ (rE_ (Kd.R_new' (Kd.R_new' (Kd.R_new' (Kd.R_new' (Kd.R_new' (Kd.R_new' ho0 (Kd.R_lt (rw_ (fa_ HO_444000 BK450)))) (Kd.R_lt (rw_ (fa_ HO_444001 BK450)))) (Kd.R_lt (rw_ (fa_ HO_451000 BK450)))) (Kd.R_lt (rw_ (fa_ HO_451001 BK450)))) (Kd.R_lt (rw_ (fa_ HO453 BK450)))) (Kd.R_lt (rw_ (fa_ HO456 BK450)))) (bF_ hB_)); have HO462 := A_ (rE_ (Kd.R_new' (Kd.R_new' (Kd.R_new' (Kd.R_new' (Kd.R_new' (Kd.R_new' ho1 (Kd.R_lt (rw_ (fa_ HO_444000 BK450)))) (Kd.R_lt (rw_ (fa_ HO_444001 BK450)))) (Kd.R_lt (rw_ (fa_ HO_451000 BK450)))) (Kd.R_lt (rw_ (fa_ HO_451001 BK450)))) (Kd.R_lt (rw_ (fa_ HO453 BK450)))) (Kd.R_lt (rw_ (fa_ HO456 BK450)))) (bF_ hB_)); replace HO_444000 := A_ (Kd.R_mono (Kd.R_told (Kd.R_told (Kd.R_old (rw_ (fa_ HO_444000 BK450)) hb) (Kd.R_base ho0)) (Kd.R_base ho1)) (fun _ h_ => h_.1)); replace HO_444001 := A_ (Kd.R_mono (Kd.R_told (Kd.R_told (Kd.R_old (rw_ (fa_ HO_444001 BK450)) hb) (Kd.R_base ho0)) (Kd.R_base ho1)) (fun _ h_ => h_.1)); replace HO_451000 := A_ (Kd.R_mono (Kd.R_told (Kd.R_told (Kd.R_old (rw_ (fa_ HO_451000 BK450)) hb) (Kd.R_base ho0)) (Kd.R_base ho1)) (fun _ h_ => h_.1)); replace HO_451001 := A_ (Kd.R_mono (Kd.R_told (Kd.R_told (Kd.R_old (rw_ (fa_ HO_451001 BK450)) hb) (Kd.R_base ho0)) (Kd.R_base ho1)) (fun _ h_ => h_.1)); replace HO453 := A_ (Kd.R_mono (Kd.R_told (Kd.R_told (Kd.R_old (rw_ (fa_ HO453 BK450)) hb) (Kd.R_base ho0)) (Kd.R_base ho1)) (fun _ h_ => h_.1)); replace HO456 := A_ (Kd.R_mono (Kd.R_told (Kd.R_told (Kd.R_old (rw_ (fa_ HO456 BK450)) hb) (Kd.R_base ho0)) (Kd.R_base ho1)) (fun _ h_ => h_.1)); replace BK435 := A_ (kE_ (g := gb435) (o := .cells #[.slice A0_0 l0_0.length c0_0, .slice A0_1 l0_1.length c0_1] 25 (0, 0)) (by (with_reducible repeat (first | refine kA_ ?_ _ | refine kB_ ?_ | refine kC_ ?_ _)); refine blk_far ?_ NB435_450.out _; (with_reducible repeat (first | refine kA_ ?_ _ | refine kB_ ?_ | refine kC_ ?_ _)); refine blk_far ?_ NB435_450.out _; (with_reducible repeat (first | refine kA_ ?_ _ | refine kB_ ?_ | refine kC_ ?_ _)); exact BK435.out) hb); replace BK443 := A_ (kE_ (g := gb443) (o := .cells #[.slice Ao9 t436.length co9, .slice Ao12 t439.length co12] 25 (0, 0)) (by (with_reducible repeat (first | refine kA_ ?_ _ | refine kB_ ?_ | refine kC_ ?_ _)); refine blk_far ?_ NB443_450.out _; (with_reducible repeat (first | refine kA_ ?_ _ | refine kB_ ?_ | refine kC_ ?_ _)); refine blk_far ?_ NB443_450.out _; (with_reducible repeat (first | refine kA_ ?_ _ | refine kB_ ?_ | refine kC_ ?_ _)); exact BK443.out) hb); replace BK450 := A_ (kE_ (g := gb450) (o := .cells #[.slice Ao31 t451.length co31, .slice Ao33 t454.length co33] 25 (0, 0)) qp_ hb); replace HB := b1_ hb; clear hb ho0 ho1) | ((with_reducible refine gB_ (N := 7) rfl ?_); refine bx_ 7 #[.slice none 0 0, .slice none 0 0] 25 ?_; intro gb464 hg w35 hbox hb; replace HO_444000 := rb_ HO_444000 hb; replace HO_444001 := rb_ HO_444001 hb; replace HO_451000 := rb_ HO_451000 hb; replace HO_451001 := rb_ HO_451001 hb; replace HO453 := rb_ HO453 hb; replace HO456 := rb_ HO456 hb; replace HO459 := rb_ HO459 hb; replace HO462 := rb_ HO462 hb; have BK464 := A_ hbox; have GW464 := gw_ w hg; have GE464 := GW464; replace HB := b1_ hb; have NB435_464 := gN_ BK435 hg; have NB464_435 := gP_ BK435 hg; replace BK435 := bb_ BK435 hb; have NB443_464 := gN_ BK443 hg; have NB464_443 := gP_ BK443 hg; replace BK443 := bb_ BK443 hb; have NB450_464 := gN_ BK450 hg; have NB464_450 := gP_ BK450 hg; replace BK450 := bb_ BK450 hb; clear hb hbox hg; obtain ⟨Ao36, co36, eo36⟩ := Kd.R_slice HO459.out; subst eo36; have hnb37 := NB464_435.out; have hnc37 := NB435_464.out; have hnb38 := NB464_443.out; have hnc38 := NB443_464.out; have hnb39 := NB464_450.out; have hnc39 := NB450_464.out; obtain ⟨hcz40_0, hcz40_1, hfz40_0, hfz40_1⟩ := c2_ BK464; obtain ⟨Ao41, co41, eo41⟩ := Kd.R_slice HO462.out; subst eo41; have hnb42 := NB443_435.out; have hnc42 := NB435_443.out; obtain ⟨hcz43_0, hcz43_1, hfz43_0, hfz43_1⟩ := c2_ BK443) | ((with_reducible refine gA_ (f := 29) rfl ?_); refine gL_ (some 29) Try.func29 #[.agg #[.slice Ao36 t457.length co36, .slice Ao41 t460.length co41], .agg #[.slice Ao9 t436.length co9, .slice Ao12 t439.length co12]] rfl qa_ ?_; (with_reducible refine (Z20.calls k1 _ _ t457 _ _ t460 _ _ t436 _ _ t439 true _ ?side1 ?side2 ?side3 ?side4 ?side5 ?side6 ?side7 ?side8 A23.out).mono ?_); (case side1 => refine (Kd.R_reads' (e := 3) (base := w.heap.size) (ok := fun k_ => ((((((some k_ ≠ (.slice Ao41 t460.length co41 : Value).ownBlock ∧ some k_ ≠ (.slice Ao9 t436.length co9 : Value).ownBlock) ∧ some k_ ≠ (.slice Ao12 t439.length co12 : Value).ownBlock) ∧ some k_ ≠ (.slice Ao28 x451000_1.length co28 : Value).ownBlock) ∧ some k_ ≠ (.slice Ao29 x451001_1.length co29 : Value).ownBlock) ∧ some k_ ≠ (.slice Ao31 t451.length co31 : Value).ownBlock) ∧ some k_ ≠ (.slice Ao33 t454.length co33 : Value).ownBlock)) (n := t457.length) (c := co36) ?_).2.2; exact (rw_ (fa_ HO459 BK464))); (case side2 => exact (Kd.R_reads' HO459.out).2.1); (case side3 => refine (Kd.R_reads' (e := 3) (base := w.heap.size) (ok := fun k_ => ((((((some k_ ≠ (.slice Ao36 t457.length co36 : Value).ownBlock ∧ some k_ ≠ (.slice Ao9 t436.length co9 : Value).ownBlock) ∧ some k_ ≠ (.slice Ao12 t439.length co12 : Value).ownBlock) ∧ some k_ ≠ (.slice Ao28 x451000_1.length co28 : Value).ownBlock) ∧ some k_ ≠ (.slice Ao29 x451001_1.length co29 : Value).ownBlock) ∧ some k_ ≠ (.slice Ao31 t451.length co31 : Value).ownBlock) ∧ some k_ ≠ (.slice Ao33 t454.length co33 : Value).ownBlock)) (n := t460.length) (c := co41) ?_).2.2; exact (rw_ (fa_ HO462 BK464))); (case side4 => exact (Kd.R_reads' HO462.out).2.1); (case side5 => refine (Kd.R_reads' (e := 3) (base := w.heap.size) (ok := fun k_ => (((((some k_ ≠ (.slice Ao12 t439.length co12 : Value).ownBlock ∧ (some k_ ≠ (.slice Ao28 x451000_1.length co28 : Value).ownBlock ∧ some k_ ≠ (.slice Ao29 x451001_1.length co29 : Value).ownBlock)) ∧ some k_ ≠ (.slice Ao31 t451.length co31 : Value).ownBlock) ∧ some k_ ≠ (.slice Ao33 t454.length co33 : Value).ownBlock) ∧ some k_ ≠ (.slice Ao36 t457.length co36 : Value).ownBlock) ∧ some k_ ≠ (.slice Ao41 t460.length co41 : Value).ownBlock)) (n := t436.length) (c := co9) ?_).2.2; exact (rw_ (fa_ HO_444000 BK464))); (case side6 => exact (Kd.R_reads' HO_444000.out).2.1); (case side7 => refine (Kd.R_reads' (e := 3) (base := w.heap.size) (ok := fun k_ => (((((some k_ ≠ (.slice Ao9 t436.length co9 : Value).ownBlock ∧ (some k_ ≠ (.slice Ao28 x451000_1.length co28 : Value).ownBlock ∧ some k_ ≠ (.slice Ao29 x451001_1.length co29 : Value).ownBlock)) ∧ some k_ ≠ (.slice Ao31 t451.length co31 : Value).ownBlock) ∧ some k_ ≠ (.slice Ao33 t454.length co33 : Value).ownBlock) ∧ some k_ ≠ (.slice Ao36 t457.length co36 : Value).ownBlock) ∧ some k_ ≠ (.slice Ao41 t460.length co41 : Value).ownBlock)) (n := t439.length) (c := co12) ?_).2.2; exact (rw_ (fa_ HO_444001 BK464))); (case side8 => exact (Kd.R_reads' HO_444001.out).2.1); rintro e w44 ⟨rfl, hb⟩; refine ⟨_, rfl, ?_⟩; replace HO_444000 := A_ (rD_ (rw_ (fa_ HO_444000 BK464)) hb); replace HO_444001 := A_ (rD_ (rw_ (fa_ HO_444001 BK464)) hb); replace HO_451000 := A_ (rD_ (rw_ (fa_ HO_451000 BK464)) hb); replace HO_451001 := A_ (rD_ (rw_ (fa_ HO_451001 BK464)) hb); replace HO453 := A_ (rD_ (rw_ (fa_ HO453 BK464)) hb); replace HO456 := A_ (rD_ (rw_ (fa_ HO456 BK464)) hb); replace HO459 := A_ (rD_ (rw_ (fa_ HO459 BK464)) hb); replace HO462 := A_ (rD_ (rw_ (fa_ HO462 BK464)) hb); replace BK435 := A_ (kE_ (g := gb435) (o := .cells #[.slice A0_0 l0_0.length c0_0, .slice A0_1 l0_1.length c0_1] 25 (0, 0)) (by (with_reducible repeat (first | refine kA_ ?_ _ | refine kB_ ?_ | refine kC_ ?_ _)); refine blk_far ?_ NB435_464.out _; (with_reducible repeat (first | refine kA_ ?_ _ | refine kB_ ?_ | refine kC_ ?_ _)); refine blk_far ?_ NB435_464.out _; (with_reducible repeat (first | refine kA_ ?_ _ | refine kB_ ?_ | refine kC_ ?_ _)); exact BK435.out) hb); replace BK443 := A_ (kE_ (g := gb443) (o := .cells #[.slice Ao9 t436.length co9, .slice Ao12 t439.length co12] 25 (0, 0)) (by (with_reducible repeat (first | refine kA_ ?_ _ | refine kB_ ?_ | refine kC_ ?_ _)); refine blk_far ?_ NB443_464.out _; (with_reducible repeat (first | refine kA_ ?_ _ | refine kB_ ?_ | refine kC_ ?_ _)); refine blk_far ?_ NB443_464.out _; (with_reducible repeat (first | refine kA_ ?_ _ | refine kB_ ?_ | refine kC_ ?_ _)); exact BK443.out) hb); replace BK450 := A_ (kE_ (g := gb450) (o := .cells #[.slice Ao31 t451.length co31, .slice Ao33 t454.length co33] 25 (0, 0)) (by (with_reducible repeat (first | refine kA_ ?_ _ | refine kB_ ?_ | refine kC_ ?_ _)); refine blk_far ?_ NB450_464.out _; (with_reducible repeat (first | refine kA_ ?_ _ | refine kB_ ?_ | refine kC_ ?_ _)); refine blk_far ?_ NB450_464.out _; (with_reducible repeat (first | refine kA_ ?_ _ | refine kB_ ?_ | refine kC_ ?_ _)); exact BK450.out) hb); replace BK464 := A_ (kE_ (g := gb464) (o := .cells #[.slice Ao36 t457.length co36, .slice Ao41 t460.length co41] 25 (0, 0)) qp_ hb); replace HB := b1_ hb; clear hb))
     go_ret
     exact ⟨qb_, hB_⟩
    ·replace c24 := Bool.eq_false_iff.mpr c24
     subst c24
     have H1 : (Z21.l0 k1 (wrap64 (x6_1 + 1)) t436 t439 t451 t454) = some r := by rw [if_neg (show ¬ (false = true) by decide)] at H; exact H
     clear H
     have H := H1
     clear H1
     have H' := A_ H
     clear H
     have hnb45 := NB450_435.out
     have hnc45 := NB435_450.out
     have hnb46 := NB450_443.out
     have hnc46 := NB443_450.out
     obtain ⟨hcz47_0, hcz47_1, hfz47_0, hfz47_1⟩ := c2_ BK450
     obtain ⟨Ao48, co48, eo48⟩ := Kd.R_slice HO_451000.out
     subst eo48
     obtain ⟨Ao49, co49, eo49⟩ := Kd.R_slice HO_451001.out
     subst eo49
     go_wp2_with (first | ((with_reducible refine gA_ (f := 63) rfl ?_); refine gL_ (some 21) Try.func63 #[.agg #[.slice Ao48 x451000_1.length co48, .slice Ao49 x451001_1.length co49], .int .u8 84] rfl qa_ ?_; (with_reducible refine (Z11.calls k1 _ _ x451000_1 _ _ x451001_1 84 t451 t454 _ (cr_ HO_451000) ((Kd.R_reads' HO_451000.out).2.1) (cr_ HO_451001) ((Kd.R_reads' HO_451001.out).2.1) A21.out).mono ?_); rintro e w50 ⟨v452, v455, rfl, ho0, ho1, hb⟩; refine ⟨_, rfl, ?_⟩; have HO453 := A_ (rE_ (Kd.R_new' (Kd.R_new' (Kd.R_new' (Kd.R_new' ho0 (Kd.R_lt (rr_ HO_444000))) (Kd.R_lt (rr_ HO_444001))) (Kd.R_lt (rr_ HO_451000))) (Kd.R_lt (rr_ HO_451001))) (bF_ hB_)); have HO456 := A_ (rE_ (Kd.R_new' (Kd.R_new' (Kd.R_new' (Kd.R_new' ho1 (Kd.R_lt (rr_ HO_444000))) (Kd.R_lt (rr_ HO_444001))) (Kd.R_lt (rr_ HO_451000))) (Kd.R_lt (rr_ HO_451001))) (bF_ hB_)); replace HO_444000 := A_ (Kd.R_mono (Kd.R_told (Kd.R_told (Kd.R_old (rr_ HO_444000) hb) (Kd.R_base ho0)) (Kd.R_base ho1)) (fun _ h_ => h_.1)); replace HO_444001 := A_ (Kd.R_mono (Kd.R_told (Kd.R_told (Kd.R_old (rr_ HO_444001) hb) (Kd.R_base ho0)) (Kd.R_base ho1)) (fun _ h_ => h_.1)); replace HO_451000 := A_ (Kd.R_mono (Kd.R_told (Kd.R_told (Kd.R_old (rr_ HO_451000) hb) (Kd.R_base ho0)) (Kd.R_base ho1)) (fun _ h_ => h_.1)); replace HO_451001 := A_ (Kd.R_mono (Kd.R_told (Kd.R_told (Kd.R_old (rr_ HO_451001) hb) (Kd.R_base ho0)) (Kd.R_base ho1)) (fun _ h_ => h_.1)); replace BK435 := bb_ BK435 hb; replace BK443 := bb_ BK443 hb; replace BK450 := bb_ BK450 hb; replace HB := b1_ hb; clear hb ho0 ho1; obtain ⟨Ao51, co51, eo51⟩ := Kd.R_slice HO453.out; subst eo51; obtain ⟨hcz52_0, hcz52_1, hfz52_0, hfz52_1⟩ := c2_ BK450; obtain ⟨Ao53, co53, eo53⟩ := Kd.R_slice HO456.out; subst eo53) | ((with_reducible refine gA_ (f := 28) rfl ?_); refine gL_ (some 24) Try.func28 #[.agg #[.slice Ao51 t451.length co51, .slice Ao53 t454.length co53]] rfl qa_ ?_; (with_reducible refine (Z41.calls k1 _ _ t451 _ _ t454 t457 t460 t463 _ ?side1 ?side2 ?side3 ?side4 A22.out).mono ?_); (case side1 => refine (Kd.R_reads' (e := 3) (base := w.heap.size) (ok := fun k_ => ((((some k_ ≠ (.slice Ao53 t454.length co53 : Value).ownBlock ∧ some k_ ≠ (.slice Ao9 t436.length co9 : Value).ownBlock) ∧ some k_ ≠ (.slice Ao12 t439.length co12 : Value).ownBlock) ∧ some k_ ≠ (.slice Ao48 x451000_1.length co48 : Value).ownBlock) ∧ some k_ ≠ (.slice Ao49 x451001_1.length co49 : Value).ownBlock)) (n := t451.length) (c := co51) ?_).2.2; exact (rw_ (fa_ HO453 BK450))); (case side2 => exact (Kd.R_reads' HO453.out).2.1); (case side3 => refine (Kd.R_reads' (e := 3) (base := w.heap.size) (ok := fun k_ => ((((some k_ ≠ (.slice Ao51 t451.length co51 : Value).ownBlock ∧ some k_ ≠ (.slice Ao9 t436.length co9 : Value).ownBlock) ∧ some k_ ≠ (.slice Ao12 t439.length co12 : Value).ownBlock) ∧ some k_ ≠ (.slice Ao48 x451000_1.length co48 : Value).ownBlock) ∧ some k_ ≠ (.slice Ao49 x451001_1.length co49 : Value).ownBlock)) (n := t454.length) (c := co53) ?_).2.2; exact (rw_ (fa_ HO456 BK450))); (case side4 => exact (Kd.R_reads' HO456.out).2.1); rintro e w54 ⟨v458, v461, rfl, ho0, ho1, hb⟩; refine ⟨_, rfl, ?_⟩; have HO459 := A_ (rE_ (Kd.R_new' (Kd.R_new' (Kd.R_new' (Kd.R_new' (Kd.R_new' (Kd.R_new' ho0 (Kd.R_lt (rw_ (fa_ HO_444000 BK450)))) (Kd.R_lt (rw_ (fa_ HO_444001 BK450)))) (Kd.R_lt (rw_ (fa_ HO_451000 BK450)))) (Kd.R_lt (rw_ (fa_ HO_451001 BK450)))) (Kd.R_lt (rw_ (fa_ HO453 BK450)))) (Kd.R_lt (rw_ (fa_ HO456 BK450)))) (bF_ hB_)); have HO462 := A_ (rE_ (Kd.R_new' (Kd.R_new' (Kd.R_new' (Kd.R_new' (Kd.R_new' (Kd.R_new' ho1 (Kd.R_lt (rw_ (fa_ HO_444000 BK450)))) (Kd.R_lt (rw_ (fa_ HO_444001 BK450)))) (Kd.R_lt (rw_ (fa_ HO_451000 BK450)))) (Kd.R_lt (rw_ (fa_ HO_451001 BK450)))) (Kd.R_lt (rw_ (fa_ HO453 BK450)))) (Kd.R_lt (rw_ (fa_ HO456 BK450)))) (bF_ hB_)); replace HO_444000 := A_ (Kd.R_mono (Kd.R_told (Kd.R_told (Kd.R_old (rw_ (fa_ HO_444000 BK450)) hb) (Kd.R_base ho0)) (Kd.R_base ho1)) (fun _ h_ => h_.1)); replace HO_444001 := A_ (Kd.R_mono (Kd.R_told (Kd.R_told (Kd.R_old (rw_ (fa_ HO_444001 BK450)) hb) (Kd.R_base ho0)) (Kd.R_base ho1)) (fun _ h_ => h_.1)); replace HO_451000 := A_ (Kd.R_mono (Kd.R_told (Kd.R_told (Kd.R_old (rw_ (fa_ HO_451000 BK450)) hb) (Kd.R_base ho0)) (Kd.R_base ho1)) (fun _ h_ => h_.1)); replace HO_451001 := A_ (Kd.R_mono (Kd.R_told (Kd.R_told (Kd.R_old (rw_ (fa_ HO_451001 BK450)) hb) (Kd.R_base ho0)) (Kd.R_base ho1)) (fun _ h_ => h_.1)); replace HO453 := A_ (Kd.R_mono (Kd.R_told (Kd.R_told (Kd.R_old (rw_ (fa_ HO453 BK450)) hb) (Kd.R_base ho0)) (Kd.R_base ho1)) (fun _ h_ => h_.1)); replace HO456 := A_ (Kd.R_mono (Kd.R_told (Kd.R_told (Kd.R_old (rw_ (fa_ HO456 BK450)) hb) (Kd.R_base ho0)) (Kd.R_base ho1)) (fun _ h_ => h_.1)); replace BK435 := A_ (kE_ (g := gb435) (o := .cells #[.slice A0_0 l0_0.length c0_0, .slice A0_1 l0_1.length c0_1] 25 (0, 0)) (by (with_reducible repeat (first | refine kA_ ?_ _ | refine kB_ ?_ | refine kC_ ?_ _)); refine blk_far ?_ NB435_450.out _; (with_reducible repeat (first | refine kA_ ?_ _ | refine kB_ ?_ | refine kC_ ?_ _)); refine blk_far ?_ NB435_450.out _; (with_reducible repeat (first | refine kA_ ?_ _ | refine kB_ ?_ | refine kC_ ?_ _)); exact BK435.out) hb); replace BK443 := A_ (kE_ (g := gb443) (o := .cells #[.slice Ao9 t436.length co9, .slice Ao12 t439.length co12] 25 (0, 0)) (by (with_reducible repeat (first | refine kA_ ?_ _ | refine kB_ ?_ | refine kC_ ?_ _)); refine blk_far ?_ NB443_450.out _; (with_reducible repeat (first | refine kA_ ?_ _ | refine kB_ ?_ | refine kC_ ?_ _)); refine blk_far ?_ NB443_450.out _; (with_reducible repeat (first | refine kA_ ?_ _ | refine kB_ ?_ | refine kC_ ?_ _)); exact BK443.out) hb); replace BK450 := A_ (kE_ (g := gb450) (o := .cells #[.slice Ao51 t451.length co51, .slice Ao53 t454.length co53] 25 (0, 0)) qp_ hb); replace HB := b1_ hb; clear hb ho0 ho1) | ((with_reducible refine gB_ (N := 7) rfl ?_); refine bx_ 7 #[.slice none 0 0, .slice none 0 0] 25 ?_; intro gb464 hg w55 hbox hb; replace HO_444000 := rb_ HO_444000 hb; replace HO_444001 := rb_ HO_444001 hb; replace HO_451000 := rb_ HO_451000 hb; replace HO_451001 := rb_ HO_451001 hb; replace HO453 := rb_ HO453 hb; replace HO456 := rb_ HO456 hb; replace HO459 := rb_ HO459 hb; replace HO462 := rb_ HO462 hb; have BK464 := A_ hbox; have GW464 := gw_ w hg; have GE464 := GW464; replace HB := b1_ hb; have NB435_464 := gN_ BK435 hg; have NB464_435 := gP_ BK435 hg; replace BK435 := bb_ BK435 hb; have NB443_464 := gN_ BK443 hg; have NB464_443 := gP_ BK443 hg; replace BK443 := bb_ BK443 hb; have NB450_464 := gN_ BK450 hg; have NB464_450 := gP_ BK450 hg; replace BK450 := bb_ BK450 hb; clear hb hbox hg; obtain ⟨Ao56, co56, eo56⟩ := Kd.R_slice HO459.out; subst eo56; have hnb57 := NB464_435.out; have hnc57 := NB435_464.out; have hnb58 := NB464_443.out; have hnc58 := NB443_464.out; have hnb59 := NB464_450.out; have hnc59 := NB450_464.out; obtain ⟨hcz60_0, hcz60_1, hfz60_0, hfz60_1⟩ := c2_ BK464; obtain ⟨Ao61, co61, eo61⟩ := Kd.R_slice HO462.out; subst eo61; have hnb62 := NB443_435.out; have hnc62 := NB435_443.out; obtain ⟨hcz63_0, hcz63_1, hfz63_0, hfz63_1⟩ := c2_ BK443) | ((with_reducible refine gA_ (f := 29) rfl ?_); refine gL_ (some 29) Try.func29 #[.agg #[.slice Ao56 t457.length co56, .slice Ao61 t460.length co61], .agg #[.slice Ao9 t436.length co9, .slice Ao12 t439.length co12]] rfl qa_ ?_; (with_reducible refine (Z20.calls k1 _ _ t457 _ _ t460 _ _ t436 _ _ t439 false _ ?side1 ?side2 ?side3 ?side4 ?side5 ?side6 ?side7 ?side8 A23.out).mono ?_); (case side1 => refine (Kd.R_reads' (e := 3) (base := w.heap.size) (ok := fun k_ => ((((((some k_ ≠ (.slice Ao61 t460.length co61 : Value).ownBlock ∧ some k_ ≠ (.slice Ao9 t436.length co9 : Value).ownBlock) ∧ some k_ ≠ (.slice Ao12 t439.length co12 : Value).ownBlock) ∧ some k_ ≠ (.slice Ao48 x451000_1.length co48 : Value).ownBlock) ∧ some k_ ≠ (.slice Ao49 x451001_1.length co49 : Value).ownBlock) ∧ some k_ ≠ (.slice Ao51 t451.length co51 : Value).ownBlock) ∧ some k_ ≠ (.slice Ao53 t454.length co53 : Value).ownBlock)) (n := t457.length) (c := co56) ?_).2.2; exact (rw_ (fa_ HO459 BK464))); (case side2 => exact (Kd.R_reads' HO459.out).2.1); (case side3 => refine (Kd.R_reads' (e := 3) (base := w.heap.size) (ok := fun k_ => ((((((some k_ ≠ (.slice Ao56 t457.length co56 : Value).ownBlock ∧ some k_ ≠ (.slice Ao9 t436.length co9 : Value).ownBlock) ∧ some k_ ≠ (.slice Ao12 t439.length co12 : Value).ownBlock) ∧ some k_ ≠ (.slice Ao48 x451000_1.length co48 : Value).ownBlock) ∧ some k_ ≠ (.slice Ao49 x451001_1.length co49 : Value).ownBlock) ∧ some k_ ≠ (.slice Ao51 t451.length co51 : Value).ownBlock) ∧ some k_ ≠ (.slice Ao53 t454.length co53 : Value).ownBlock)) (n := t460.length) (c := co61) ?_).2.2; exact (rw_ (fa_ HO462 BK464))); (case side4 => exact (Kd.R_reads' HO462.out).2.1); (case side5 => refine (Kd.R_reads' (e := 3) (base := w.heap.size) (ok := fun k_ => (((((some k_ ≠ (.slice Ao12 t439.length co12 : Value).ownBlock ∧ (some k_ ≠ (.slice Ao48 x451000_1.length co48 : Value).ownBlock ∧ some k_ ≠ (.slice Ao49 x451001_1.length co49 : Value).ownBlock)) ∧ some k_ ≠ (.slice Ao51 t451.length co51 : Value).ownBlock) ∧ some k_ ≠ (.slice Ao53 t454.length co53 : Value).ownBlock) ∧ some k_ ≠ (.slice Ao56 t457.length co56 : Value).ownBlock) ∧ some k_ ≠ (.slice Ao61 t460.length co61 : Value).ownBlock)) (n := t436.length) (c := co9) ?_).2.2; exact (rw_ (fa_ HO_444000 BK464))); (case side6 => exact (Kd.R_reads' HO_444000.out).2.1); (case side7 => refine (Kd.R_reads' (e := 3) (base := w.heap.size) (ok := fun k_ => (((((some k_ ≠ (.slice Ao9 t436.length co9 : Value).ownBlock ∧ (some k_ ≠ (.slice Ao48 x451000_1.length co48 : Value).ownBlock ∧ some k_ ≠ (.slice Ao49 x451001_1.length co49 : Value).ownBlock)) ∧ some k_ ≠ (.slice Ao51 t451.length co51 : Value).ownBlock) ∧ some k_ ≠ (.slice Ao53 t454.length co53 : Value).ownBlock) ∧ some k_ ≠ (.slice Ao56 t457.length co56 : Value).ownBlock) ∧ some k_ ≠ (.slice Ao61 t460.length co61 : Value).ownBlock)) (n := t439.length) (c := co12) ?_).2.2; exact (rw_ (fa_ HO_444001 BK464))); (case side8 => exact (Kd.R_reads' HO_444001.out).2.1); rintro e w64 ⟨rfl, hb⟩; refine ⟨_, rfl, ?_⟩; replace HO_444000 := A_ (rD_ (rw_ (fa_ HO_444000 BK464)) hb); replace HO_444001 := A_ (rD_ (rw_ (fa_ HO_444001 BK464)) hb); replace HO_451000 := A_ (rD_ (rw_ (fa_ HO_451000 BK464)) hb); replace HO_451001 := A_ (rD_ (rw_ (fa_ HO_451001 BK464)) hb); replace HO453 := A_ (rD_ (rw_ (fa_ HO453 BK464)) hb); replace HO456 := A_ (rD_ (rw_ (fa_ HO456 BK464)) hb); replace HO459 := A_ (rD_ (rw_ (fa_ HO459 BK464)) hb); replace HO462 := A_ (rD_ (rw_ (fa_ HO462 BK464)) hb); replace BK435 := A_ (kE_ (g := gb435) (o := .cells #[.slice A0_0 l0_0.length c0_0, .slice A0_1 l0_1.length c0_1] 25 (0, 0)) (by (with_reducible repeat (first | refine kA_ ?_ _ | refine kB_ ?_ | refine kC_ ?_ _)); refine blk_far ?_ NB435_464.out _; (with_reducible repeat (first | refine kA_ ?_ _ | refine kB_ ?_ | refine kC_ ?_ _)); refine blk_far ?_ NB435_464.out _; (with_reducible repeat (first | refine kA_ ?_ _ | refine kB_ ?_ | refine kC_ ?_ _)); exact BK435.out) hb); replace BK443 := A_ (kE_ (g := gb443) (o := .cells #[.slice Ao9 t436.length co9, .slice Ao12 t439.length co12] 25 (0, 0)) (by (with_reducible repeat (first | refine kA_ ?_ _ | refine kB_ ?_ | refine kC_ ?_ _)); refine blk_far ?_ NB443_464.out _; (with_reducible repeat (first | refine kA_ ?_ _ | refine kB_ ?_ | refine kC_ ?_ _)); refine blk_far ?_ NB443_464.out _; (with_reducible repeat (first | refine kA_ ?_ _ | refine kB_ ?_ | refine kC_ ?_ _)); exact BK443.out) hb); replace BK450 := A_ (kE_ (g := gb450) (o := .cells #[.slice Ao51 t451.length co51, .slice Ao53 t454.length co53] 25 (0, 0)) (by (with_reducible repeat (first | refine kA_ ?_ _ | refine kB_ ?_ | refine kC_ ?_ _)); refine blk_far ?_ NB450_464.out _; (with_reducible repeat (first | refine kA_ ?_ _ | refine kB_ ?_ | refine kC_ ?_ _)); refine blk_far ?_ NB450_464.out _; (with_reducible repeat (first | refine kA_ ?_ _ | refine kB_ ?_ | refine kC_ ?_ _)); exact BK450.out) hb); replace BK464 := A_ (kE_ (g := gb464) (o := .cells #[.slice Ao56 t457.length co56, .slice Ao61 t460.length co61] 25 (0, 0)) qp_ hb); replace HB := b1_ hb; clear hb))
     go_roundg k1
     case measure => have := HK1.out; omega
     case rel => exact ⟨(wrap64 (x6_1 + 1)), (t451), (t454), (.slice Ao51 t451.length co51), (.slice Ao53 t454.length co53), qc_, H', ⟨by have := HK1.out; omega⟩, ⟨(rw_ (Kd.R_mono HO_444000.out (fun _ hk => ⟨hk.1.1.1.1.1, ⟨hk.1.1.1.2, hk.1.1.2⟩⟩)))⟩, ⟨(rw_ (Kd.R_mono HO_444001.out (fun _ hk => ⟨hk.1.1.1.1.1, ⟨hk.1.1.1.2, hk.1.1.2⟩⟩)))⟩, ⟨(rw_ (Kd.R_mono HO453.out (fun _ hk => ⟨hk.1.1.1.1.1.2, ⟨hk.1.1.1.1.2, hk.1.1.1.1.1.1⟩⟩)))⟩, ⟨(rw_ (Kd.R_mono HO456.out (fun _ hk => ⟨hk.1.1.1.1.1.2, ⟨hk.1.1.1.1.2, hk.1.1.1.1.1.1⟩⟩)))⟩, ⟨(kk_ BK435)⟩, ⟨(kk_ BK443)⟩, ⟨(kk_ BK450)⟩, ⟨hB_⟩⟩
 ·replace c3 := Bool.eq_false_iff.mpr c3
  subst c3
  have H1 : (some 0) = some r := by rw [if_neg (show ¬ (false = true) by decide)] at H; exact H
  clear H
  have H := H1
  clear H1
  obtain rfl := Option.some.inj H
  go_enter Try.func16, Try.ntmps16
  go_wp2_with (first | ((with_reducible refine gB_ (N := 1) rfl ?_); refine bx_ 1 #[.slice A0_0 l0_0.length c0_0, .slice A0_1 l0_1.length c0_1] 25 ?_; intro gb435 hg w65 hbox hb; have BK435 := A_ hbox; have GW435 := gw_ w hg; have GE435 := GW435; replace HB := b1_ hb; clear hb hbox hg; obtain ⟨hcz66_0, hcz66_1, hfz66_0, hfz66_1⟩ := c2_ BK435) | ((with_reducible refine gA_ (f := 28) rfl ?_); refine gL_ (some 11) Try.func28 #[.agg #[.slice A0_0 l0_0.length c0_0, .slice A0_1 l0_1.length c0_1]] rfl qa_ ?_; (with_reducible refine (Z41.calls k _ _ l0_0 _ _ l0_1 t436 t439 false _ (cb_ HR0_0) HC0_0.out (cb_ HR0_1) HC0_1.out A2.out).mono ?_); rintro e w67 ⟨v437, v440, rfl, ho0, ho1, hb⟩; refine ⟨_, rfl, ?_⟩; have HO438 := rl_ w ho0; have HO441 := rl_ w ho1; replace BK435 := bb_ BK435 hb; replace HB := b1_ hb; clear hb ho0 ho1) | ((with_reducible refine gB_ (N := 3) rfl ?_); refine bx_ 3 #[.slice none 0 0, .slice none 0 0] 25 ?_; intro gb443 hg w68 hbox hb; replace HO438 := rb_ HO438 hb; replace HO441 := rb_ HO441 hb; have BK443 := A_ hbox; have GW443 := gw_ w hg; have GE443 := GW443; replace HB := b1_ hb; have NB435_443 := gN_ BK435 hg; have NB443_435 := gP_ BK435 hg; replace BK435 := bb_ BK435 hb; clear hb hbox hg; obtain ⟨Ao69, co69, eo69⟩ := Kd.R_slice HO438.out; subst eo69; have hnb70 := NB443_435.out; have hnc70 := NB435_443.out; obtain ⟨hcz71_0, hcz71_1, hfz71_0, hfz71_1⟩ := c2_ BK443; obtain ⟨Ao72, co72, eo72⟩ := Kd.R_slice HO441.out; subst eo72))
  go_ret
  exact ⟨qb_, hB_⟩
end Go.Proofs.Ytcggfjpnfodbaaa.A
end
section
namespace Go.Proofs.Ytcggfjpnfodbaaa.A
open Go.RowKit Go.Proofs.YtcggfjpnfodbaaaW.PrintWords Go.Proofs.YtcggfjpnfodbaaaW.PrintLast Go.Proofs.YtcggfjpnfodbaaaW.PrintMore
attribute [local go_sem] max2_int min2_int max_two min_two max_three min_three max_four min_four
set_option linter.unusedVariables false
set_option linter.unusedSimpArgs false
mutual
def Z34.l0 : Nat → List Int → List Bool → List (List Int) → Int → Int → Option ((List (List Int)))
 | 0, _, _, _, _, _ => none
 | k + 1, x0, x3, x4, x16, x17 => if x17 < x16 then (if 0 ≤ x17 then (if x17 < (x3.length : Int) then (if rdOf false x3 x17 = true then (Z34.l0 k x0 x3 x4 x16 (wrap64 (x17 + 1))) else (Z34.l1 k x0 x3 x4 (([] : List Int)) x17 x16 x17)) else (none)) else (none)) else (some x4)
def Z34.l1 : Nat → List Int → List Bool → List (List Int) → List Int → Int → Int → Int → Option ((List (List Int)))
 | 0, _, _, _, _, _, _, _ => none
 | k + 1, x0, x3, x4, x6, x7, x16, x17 => if 0 ≤ x7 then (if x7 < (x3.length : Int) then (if rdOf false x3 x7 = true then (if x4.length < 5864062014805 then (Z34.l0 k x0 x3 (x4 ++ [x6]) x16 (wrap64 (x17 + 1))) else (none)) else (if x6.length < 17592186044416 then (if x7 < (x0.length : Int) then (Z34.l1 k x0 (x3.set (x7 : Int).toNat true) x4 (x6 ++ [x7]) (rd x0 x7) x16 x17) else (none)) else (none))) else (none)) else (none)
end
def Z34.f (k : Nat) (l0 : List Int) : Option ((List (List Int))) := (Z49.f k l0).bind fun t466 => (if t466 = true then (if 0 ≤ (l0.length : Int) then (if ((l0.length : Int) : Int).toNat ≤ 281474976710656 then (Z34.l0 k l0 (List.replicate ((l0.length : Int) : Int).toNat false) (([] : List (List Int))) (l0.length : Int) 0) else (none)) else (none)) else (some ([] : List (List Int))))
theorem Z34.mono_l : ∀ k, (∀ y0 y1 y2 y3 y4, LeO (Z34.l0 k y0 y1 y2 y3 y4) (Z34.l0 (k + 1) y0 y1 y2 y3 y4)) ∧ (∀ y0 y1 y2 y3 y4 y5 y6, LeO (Z34.l1 k y0 y1 y2 y3 y4 y5 y6) (Z34.l1 (k + 1) y0 y1 y2 y3 y4 y5 y6))
 | 0 => ⟨fun _ _ _ _ _ r h => by simp [Z34.l0] at h, fun _ _ _ _ _ _ _ r h => by simp [Z34.l1] at h⟩
 | k + 1 => by
  obtain ⟨ih0, ih1⟩ := Z34.mono_l k
  refine ⟨?_, ?_⟩
  ·intro y0 y1 y2 y3 y4
   unfold Z34.l0
   repeat' first|exact ih0 _ _ _ _ _|exact ih1 _ _ _ _ _ _ _|exact Z49.mono _ _|exact lo_|refine LeO.ite ?_ ?_|refine LeO.bind ?_ (fun _ => ?_)
  ·intro y0 y1 y2 y3 y4 y5 y6
   unfold Z34.l1
   repeat' first|exact ih0 _ _ _ _ _|exact ih1 _ _ _ _ _ _ _|exact Z49.mono _ _|exact lo_|refine LeO.ite ?_ ?_|refine LeO.bind ?_ (fun _ => ?_)
theorem Z34.mono : ∀ a0 k, LeO (Z34.f k a0) (Z34.f (k + 1) a0) := by
 intro a0 k
 obtain ⟨ih0, ih1⟩ := Z34.mono_l k
 unfold Z34.f
 repeat' first|exact ih0 _ _ _ _ _|exact ih1 _ _ _ _ _ _ _|exact Z49.mono _ _|exact lo_|refine LeO.ite ?_ ?_|refine LeO.bind ?_ (fun _ => ?_)
set_option maxHeartbeats 8000000 in
set_option maxRecDepth 100000 in
theorem Z34.calls (k : Nat) (A0 : Option Addr) (c0 : Nat) (l0 : List Int) (r : List (List Int)) (w : World) (hr0 : Kd.C (Kd.int .i64) w A0 l0.length l0) (hc0 : l0.length ≤ c0) (h : Z34.f k l0 = some r) :
  Calls Try.prog 102 #[.slice A0 l0.length c0] w fun e w' => ∃ v0_ : Value, e = .returned (v0_) ∧ Kd.S (Kd.slice 3 (Kd.int .i64)) 23 w' w.heap.size (fun _ => True) v0_ r ∧ Below w.heap.size w w' := by
 have HR0 := A_ hr0
 have HC0 := A_ hc0
 clear hr0 hc0
 have HB := A_ (Below.refl w.heap.size w)
 have H := h
 unfold Z34.f at H
 clear h
 obtain ⟨t466, A2, H⟩ := bi_ H
 by_cases c3 : t466 = true
 ·subst c3
  rw [if_pos rfl] at H
  have c4 := cp_ H
  replace H := ca_ H
  have c4b0 := eq_true c4
  have c4b1 := oC_ c4
  clear c4
  have c5 := cp_ H
  replace H := ca_ H
  have c5b0 := eq_true c5
  have c5b1 := oC_ c5
  clear c5
  obtain ⟨y467, hy467⟩ : ∃ y_ : List Bool, y_ = (List.replicate ((l0.length : Int) : Int).toNat false) := ⟨_, rfl⟩
  replace H : (Z34.l0 k l0 y467 (([] : List (List Int))) (l0.length : Int) 0) = some r := by first | (rw [hy467]; exact H) | exact H
  have Ny467 := A_ hy467
  clear hy467
  obtain ⟨y470, hy470⟩ : ∃ y_ : List (List Int), y_ = (([] : List (List Int))) := ⟨_, rfl⟩
  replace H : (Z34.l0 k l0 y467 y470 (l0.length : Int) 0) = some r := by first | (rw [hy470]; exact H) | exact H
  have Ny470 := A_ hy470
  clear hy470
  have H' := A_ H
  clear H
  go_enter Try.func102, Try.ntmps102
  go_wp2_with (first | ((with_reducible refine gA_ (f := 107) rfl ?_); refine gL_ (some 9) Try.func107 #[.slice A0 l0.length c0] rfl qa_ ?_; (with_reducible refine (Z49.calls k _ _ l0 true _ (cc_ HR0) HC0.out A2.out).mono ?_); rintro e w6 ⟨rfl, hb⟩; refine ⟨_, rfl, ?_⟩; replace HB := b1_ hb; clear hb) | ((with_reducible refine gB_ (N := 13) rfl ?_); refine Kd.R_make Kd.bool _ 4 rfl (N := 13) rfl 66 _ _ rfl (l0.length : Int) rfl rfl Try.underlying66 (.bool false) 1 info4 rfl (by decide) (by omega) false (ok := fun _ => True) (okp := fun _ => True) rfl (fun _ hk => hk) trivial (oB_ qe_) (Nat.le_trans (Nat.mul_le_mul_right _ (oB_ qe_ : (l0.length : Int).toNat ≤ 281474976710656)) (by omega)) (Below.refl _ _) (nA_ _) ?_; intro v468 w7 ho8 hb hg_ hnew_; clear hg_ hnew_; (first | rw [← Ny467.out] at ho8 | (simp only [Int.reduceToNat] at ho8; rw [← Ny467.out] at ho8)); have HO469 := rl_ w ho8; replace HB := b1_ hb; clear hb ho8) | ((with_reducible refine gB_ (N := 14) rfl ?_); refine Kd.S_lit (Kd.slice 3 (Kd.int .i64)) _ 23 ?hg (N := 14) ?hd (xs := ([] : List (List Int))) (inner := []) (ok := fun _ => True) (okp := fun _ => True) ?hr ?hp (fun _ hk => hk) trivial (Below.refl _ _) (nA_ _) (by simp) ?_; (case hd => rfl); (case hg => rfl); (case hr => first | (go_simp; done) | (go_simp; rfl)); (case hp => exact (Reps.none _ _)); intro v471 w9 ho10 hb hg_ hnew_; clear hg_ hnew_; (first | rw [← Ny470.out] at ho10 | (simp only [Int.reduceToNat] at ho10; rw [← Ny470.out] at ho10)); replace HO469 := rb_ HO469 hb; have HO472 := A_ (Kd.S_lower ho10 (bF_ hB_)); replace HB := b1_ hb; clear hb ho10))
  go_loopg [4, 17] k (fun kq v4 v17 w' => ∃ (x3_1 : List Bool) (x4_1 : List (List Int)) (x17_1 : Int), v17 = .int .i64 x17_1 ∧ Aside0 (Z34.l0 kq l0 x3_1 x4_1 (l0.length : Int) x17_1 = some r) ∧ Aside0 (kq ≤ k) ∧ Aside0 (Kd.R Kd.bool 4 w' w.heap.size (fun _ => True) v468 x3_1) ∧ Aside0 (Kd.S (Kd.slice 3 (Kd.int .i64)) 23 w' w.heap.size (fun _ => True) v4 x4_1) ∧ Aside0 (Below w.heap.size w w'))
  case atStart => exact ⟨(y467), (y470), (0), qc_, H', ⟨nA_ _⟩, ⟨(rr_ HO469)⟩, ⟨(ss_ HO472)⟩, ⟨hB_⟩⟩
  case round =>
   clear H'
   obtain ⟨x3_1, x4_1, x17_1, rfl, HA, HK1, HO_3, HO_4, HB⟩ := hrel
   cases gk with
   | zero => exact absurd HA.out (by simp [Z34.l0])
   | succ k1 =>
    have H := HA.out
    clear HA
    simp only [Z34.l0] at H
    by_cases c11 : x17_1 < (l0.length : Int)
    ·rw [if_pos c11] at H
     have c11b0 := oC_ c11
     clear c11
     have c12 := cp_ H
     replace H := ca_ H
     have c12b0 := oC_ c12
     clear c12
     have c13 := cp_ H
     replace H := ca_ H
     have c13b0 := oC_ c13
     clear c13
     obtain ⟨bq14, hbq14⟩ : ∃ b_ : Bool, b_ = (rdOf false x3_1 x17_1) := ⟨_, rfl⟩
     replace H : (if bq14 = true then (Z34.l0 k1 l0 x3_1 x4_1 (l0.length : Int) (wrap64 (x17_1 + 1))) else (Z34.l1 k1 l0 x3_1 x4_1 (([] : List Int)) x17_1 (l0.length : Int) x17_1)) = some r := by rw [← hbq14] at H; exact H
     have Nbq14 := A_ hbq14
     clear hbq14
     by_cases c15 : bq14 = true
     ·subst c15
      rw [if_pos rfl] at H
      have H' := A_ H
      clear H
      obtain ⟨Ao16, co16, eo16⟩ := Kd.R_slice HO_3.out
      subst eo16
      have p473 : 0 ≤ (x17_1 : Int) := oB_ qe_
      have q473 : x17_1 < (x3_1.length : Int) := oB_ qe_
      obtain ⟨ad473, e473, hx473_0⟩ := Kd.at_bool (Kd.R_reads' HO_3.out).2.2 x17_1 p473 q473
      (try rw [← Nbq14.out] at hx473_0)
      cases e473
      replace p473 := eq_true p473
      replace q473 := eq_true q473
      go_wp2
      go_roundg k1
      case measure => have := HK1.out; omega
      case rel => exact ⟨(x3_1), (x4_1), (wrap64 (x17_1 + 1)), qc_, H', ⟨by have := HK1.out; omega⟩, ⟨(rr_ HO_3)⟩, ⟨(ss_ HO_4)⟩, ⟨hB_⟩⟩
     ·replace c15 := Bool.eq_false_iff.mpr c15
      subst c15
      have H1 : (Z34.l1 k1 l0 x3_1 x4_1 (([] : List Int)) x17_1 (l0.length : Int) x17_1) = some r := by rw [if_neg (show ¬ (false = true) by decide)] at H; exact H
      clear H
      have H := H1
      clear H1
      obtain ⟨y474, hy474⟩ : ∃ y_ : List Int, y_ = (([] : List Int)) := ⟨_, rfl⟩
      replace H : (Z34.l1 k1 l0 x3_1 x4_1 y474 x17_1 (l0.length : Int) x17_1) = some r := by first | (rw [hy474]; exact H) | exact H
      have Ny474 := A_ hy474
      clear hy474
      have H' := A_ H
      clear H
      obtain ⟨Ao17, co17, eo17⟩ := Kd.R_slice HO_3.out
      subst eo17
      have p473 : 0 ≤ (x17_1 : Int) := oB_ qe_
      have q473 : x17_1 < (x3_1.length : Int) := oB_ qe_
      obtain ⟨ad473, e473, hx473_0⟩ := Kd.at_bool (Kd.R_reads' HO_3.out).2.2 x17_1 p473 q473
      (try rw [← Nbq14.out] at hx473_0)
      cases e473
      obtain ⟨g473, rfl⟩ : ∃ g_, ad473 = (⟨g_, 0, none⟩ : Addr) := Kd.R_head HO_3.out
      (try simp only [add_plain] at hx473_0)
      replace p473 := eq_true p473
      replace q473 := eq_true q473
      go_wp2_with (first | ((with_reducible refine gB_ (N := 24) rfl ?_); refine Kd.R_lit (Kd.int .i64) _ 3 ?hg (N := 24) ?hd (xs := ([] : List Int)) (inner := []) (ok := fun _ => True) (okp := fun _ => True) ?hr ?hp (fun _ hk => hk) trivial (Below.refl _ _) (nA_ _) (by simp) ?_; (case hd => rfl); (case hg => rfl); (case hr => first | (go_simp; done) | (go_simp; rfl)); (case hp => exact (Reps.none _ _)); intro v475 w18 ho19 hb hg_ hnew_; clear hg_ hnew_; (first | rw [← Ny474.out] at ho19 | (simp only [Int.reduceToNat] at ho19; rw [← Ny474.out] at ho19)); replace HO_3 := rb_ HO_3 hb; replace HO_4 := A_ (Kd.S_elder' (ss_ HO_4) (Kd.R_base ho19) hb); have HO476 := rl_ w ho19; replace HB := b1_ hb; clear hb ho19))
      go_loopg [6, 7] k1 (fun kq v6 v7 w' => ∃ (x3_2 : List Bool) (x6_2 : List Int) (x7_2 : Int), v7 = .int .i64 x7_2 ∧ Aside0 (Z34.l1 kq l0 x3_2 x4_1 x6_2 x7_2 (l0.length : Int) x17_1 = some r) ∧ Aside0 (kq ≤ k1) ∧ Aside0 (Kd.R Kd.bool 4 w' w.heap.size (fun _ => True) (.slice (some (⟨g473, 0, none⟩ : Addr)) x3_1.length co17) x3_2) ∧ Aside0 (Kd.S (Kd.slice 3 (Kd.int .i64)) 23 w' w.heap.size (fun k_ => some k_ ≠ (v6 : Value).ownBlock) u4 x4_1) ∧ Aside0 (Kd.R (Kd.int .i64) 3 w' w.heap.size (fun _ => True) v6 x6_2) ∧ Aside0 (Below w.heap.size w w'))
      case atStart => exact ⟨(x3_1), (y474), (x17_1), qc_, H', ⟨nA_ _⟩, ⟨(rr_ HO_3)⟩, ⟨(sw_ (Kd.S_mono HO_4.out (fun _ hk => hk.2)))⟩, ⟨(rr_ HO476)⟩, ⟨hB_⟩⟩
      case round =>
       clear H'
       obtain ⟨x3_2, x6_2, x7_2, rfl, HA, HK2, HO_3, HO_4, HO_6, HB⟩ := hrel
       have hl3_2 := (Kd.R_reads' HO_3.out).1
       rw [hl3_2] at HO_3
       (try simp only [hl3_2])
       (try simp only [hl3_2] at HO_4)
       (try simp only [hl3_2] at HO_6)
       cases gk with
       | zero => exact absurd HA.out (by simp [Z34.l1])
       | succ k2 =>
        have H := HA.out
        clear HA
        simp only [Z34.l1] at H
        have c20 := cp_ H
        replace H := ca_ H
        have c20b0 := oC_ c20
        clear c20
        have c21 := cp_ H
        replace H := ca_ H
        have c21b0 := oC_ c21
        clear c21
        obtain ⟨bq22, hbq22⟩ : ∃ b_ : Bool, b_ = (rdOf false x3_2 x7_2) := ⟨_, rfl⟩
        replace H : (if bq22 = true then (if x4_1.length < 5864062014805 then (Z34.l0 k2 l0 x3_2 (x4_1 ++ [x6_2]) (l0.length : Int) (wrap64 (x17_1 + 1))) else (none)) else (if x6_2.length < 17592186044416 then (if x7_2 < (l0.length : Int) then (Z34.l1 k2 l0 (x3_2.set (x7_2 : Int).toNat true) x4_1 (x6_2 ++ [x7_2]) (rd l0 x7_2) (l0.length : Int) x17_1) else (none)) else (none))) = some r := by rw [← hbq22] at H; exact H
        have Nbq22 := A_ hbq22
        clear hbq22
        by_cases c23 : bq22 = true
        ·subst c23
         rw [if_pos rfl] at H
         have c24 := cp_ H
         replace H := ca_ H
         have LMc24 := A_ c24
         clear c24
         obtain ⟨y478, hy478⟩ : ∃ y_ : List (List Int), y_ = (x4_1 ++ [x6_2]) := ⟨_, rfl⟩
         replace H : (Z34.l0 k2 l0 x3_2 y478 (l0.length : Int) (wrap64 (x17_1 + 1))) = some r := by first | (rw [hy478]; exact H) | exact H
         have Ny478 := A_ hy478
         clear hy478
         have H' := A_ H
         clear H
         have p477 : 0 ≤ (x7_2 : Int) := oB_ qe_
         have q477 : x7_2 < (x3_2.length : Int) := oB_ qe_
         obtain ⟨ad477, e477, hx477_0⟩ := Kd.at_bool (Kd.R_reads' HO_3.out).2.2 x7_2 p477 q477
         (try rw [← Nbq14.out] at hx477_0)
         (try rw [← Nbq22.out] at hx477_0)
         obtain rfl : (⟨g473, 0, none⟩ : Addr) = ad477 := (by injection e477)
         (try simp only [add_plain] at hx477_0)
         replace p477 := eq_true p477
         replace q477 := eq_true q477
         obtain ⟨Ao26, co26, eo26⟩ := Kd.R_slice HO_6.out
         subst eo26
         go_wp2_with (first | ((with_reducible refine gate_builtin (b := .append) (xs := #[.tmp 42, .tmp 44]) rfl ?_); at_builtin; refine Kd.S_append (Kd.slice 3 (Kd.int .i64)) (w0 := w) w.heap.size rfl (.tmp 42) (.tmp 44) 103 23 (.slice none 0 0) 24 rfl Try.underlying103 info23 rfl (by decide) (by omega) u4 x4_1 x6_2 [.slice Ao26 x6_2.length co26] (fun _ => True) (fun k_ => some k_ = (.slice Ao26 x6_2.length co26 : Value).ownBlock) rfl rfl ?aP (fun k_ hk_ => ((Kd.R_mono (ok' := fun k_ => ((fun _ => True)) k_ ∧ some k_ ≠ (u4 : Value).ownBlock) (Kd.R_apart' (HO_6.out) (Kd.S_typed HO_4.out) (by decide)) (fun k_ hk => ⟨trivial, hk.2⟩))).1 k_ hk_.symm) ?aF ?aO ?aB ?aS ?aL ?_; (case aP => exact Kd.M_row (Kd.R_mono (Kd.R_tight rfl (Kd.R_mono (ok' := fun k_ => ((fun _ => True)) k_ ∧ some k_ ≠ (u4 : Value).ownBlock) (Kd.R_apart' (HO_6.out) (Kd.S_typed HO_4.out) (by decide)) (fun k_ hk => ⟨trivial, hk.2⟩))) (fun _ h_ => h_))); (case aB => exact hB_); (case aF => exact (fun _ _ => trivial)); (case aO => exact (sw_ (Kd.S_mono HO_4.out (fun k_ hk => ⟨trivial, fun e_ => hk e_⟩)))); (case aS => exact (bF_ hB_)); (case aL => have := LMc24.out; omega); intro v479 w25 ho hb hg hat; rw [← Ny478.out] at ho; replace HO_3 := A_ (Kd.R_over' (rr_ HO_3) (Kd.S_typed (ss_ HO_4)) (by decide) hg); replace HB := A_ hb; have HO480 := A_ ho; clear HO_4 HO_6; clear ho hb hg hat))
         (try simp only [← hl3_2])
         go_roundg k2
         case measure => have := HK1.out; have := HK2.out; omega
         case rel => exact ⟨(x3_2), (y478), (wrap64 (x17_1 + 1)), qc_, H', ⟨by have := HK1.out; have := HK2.out; omega⟩, ⟨by (try simp only [hl3_2]); (with_reducible repeat (first | apply rA_ | apply rB_ | apply rC_)); exact HO_3.out⟩, ⟨by (try simp only [hl3_2]); (with_reducible repeat (first | apply Kd.S_alloc | apply Kd.S_drewN | apply Kd.S_drew)); exact HO480.out⟩, ⟨hB_⟩⟩
        ·replace c23 := Bool.eq_false_iff.mpr c23
         subst c23
         have H1 : (if x6_2.length < 17592186044416 then (if x7_2 < (l0.length : Int) then (Z34.l1 k2 l0 (x3_2.set (x7_2 : Int).toNat true) x4_1 (x6_2 ++ [x7_2]) (rd l0 x7_2) (l0.length : Int) x17_1) else (none)) else (none)) = some r := by rw [if_neg (show ¬ (false = true) by decide)] at H; exact H
         clear H
         have H := H1
         clear H1
         obtain ⟨y481, hy481⟩ : ∃ y_ : List Bool, y_ = (x3_2.set (x7_2 : Int).toNat true) := ⟨_, rfl⟩
         replace H : (if x6_2.length < 17592186044416 then (if x7_2 < (l0.length : Int) then (Z34.l1 k2 l0 y481 x4_1 (x6_2 ++ [x7_2]) (rd l0 x7_2) (l0.length : Int) x17_1) else (none)) else (none)) = some r := by first | (rw [hy481]; exact H) | exact H
         have Ny481 := A_ hy481
         clear hy481
         have c28 := cp_ H
         replace H := ca_ H
         have LMc28 := A_ c28
         clear c28
         obtain ⟨y482, hy482⟩ : ∃ y_ : List Int, y_ = (x6_2 ++ [x7_2]) := ⟨_, rfl⟩
         replace H : (if x7_2 < (l0.length : Int) then (Z34.l1 k2 l0 y481 x4_1 y482 (rd l0 x7_2) (l0.length : Int) x17_1) else (none)) = some r := by first | (rw [hy482]; exact H) | exact H
         have Ny482 := A_ hy482
         clear hy482
         have c29 := cp_ H
         replace H := ca_ H
         have c29b0 := oC_ c29
         clear c29
         have H' := A_ H
         clear H
         have p477 : 0 ≤ (x7_2 : Int) := oB_ qe_
         have q477 : x7_2 < (x3_2.length : Int) := oB_ qe_
         obtain ⟨ad477, e477, hx477_0⟩ := Kd.at_bool (Kd.R_reads' HO_3.out).2.2 x7_2 p477 q477
         (try rw [← Nbq14.out] at hx477_0)
         (try rw [← Nbq22.out] at hx477_0)
         obtain rfl : (⟨g473, 0, none⟩ : Addr) = ad477 := (by injection e477)
         (try simp only [add_plain] at hx477_0)
         replace p477 := eq_true p477
         replace q477 := eq_true q477
         have p27 : 0 ≤ (x7_2 : Int) := oB_ qe_
         have q27 : (x7_2 : Int) < ((x3_2.length : Int) : Int) := oB_ qe_
         obtain ⟨go27, co27, eo27, gb27, gl27, cl27, HG27⟩ := Kd.R_form HO_3.out (by omega)
         (first | cases eo27 | (injection eo27 with ea_ en_ ec_; (first | subst ea_ | (injection ea_ with ea_; subst ea_)); subst ec_; clear en_))
         have GB27 := A_ gb27
         have GG27 := A_ HG27
         clear gb27 gl27 HG27
         (first | simp only [add_plain] at hx473_0 | skip)
         (first | simp only [add_plain] at hx477_0 | skip)
         obtain ⟨hx27_0, hf27_0⟩ := Kd.R_celln false HO_3.out (x7_2 : Int) p27 q27
         replace p27 := eq_true p27
         replace q27 := eq_true q27
         have HP30 := Kd.R_putg HO_3.out (x7_2 : Int) true
         go_wp2_with (first | ((with_reducible refine gate_store (t := 4) (p := 37) rfl ?_); refine store_event (t := 4) (p := 37) (v := ?vo_w31) (w1 := (wr.setCell ⟨g473, (x7_2 : Int).toNat, none⟩ (.bool true))) ?hg ?ho ?hn ?hr ?_; (case ho => rfl); (case hg => rfl); (case hn => rfl); (case hr => first | (go_simp; done) | (go_simp; rfl)); intro w31 hw; have hg : wr.grownBy w31 (some g473) := (by rw [hw]; exact HP30.2); have hp_ : Kd.R Kd.bool 4 w31 w.heap.size (fun _ => True) (.slice (some ⟨g473, 0, none⟩) x3_2.length co17) y481 := (by rw [hw, Ny481.out]; exact HP30.1); clear HP30; replace HO_4 := A_ (Kd.S_over' (v := (.slice (some ⟨g473, 0, none⟩) x3_2.length co17)) (ss_ HO_4) (Kd.R_typed HO_3.out) (by decide) hg); replace HO_6 := A_ (Kd.R_over' (v := (.slice (some ⟨g473, 0, none⟩) x3_2.length co17)) (rr_ HO_6) (Kd.R_typed HO_3.out) (by decide) hg); replace HO_3 := A_ (hp_); replace HB := A_ ((by rw [hw]; exact bD_ (HB.out) GB27.out : Below w.heap.size w w31)); clear hg hw hp_) | ((with_reducible refine gate_builtin (b := .append) (xs := #[.tmp 38, .tmp 40]) rfl ?_); at_builtin; refine Kd.R_append (Kd.int .i64) (w0 := w) w.heap.size rfl (.tmp 38) (.tmp 40) 23 3 (.int .i64 0) 8 rfl Try.underlying23 info3 rfl (by decide) (by omega) u6 x6_2 x7_2 [.int .i64 x7_2] (fun _ => True) (fun _ => False) rfl rfl ?aP (fun _ hk => hk.elim) ?aF ?aO ?aB ?aS ?aL ?_; (case aP => exact rfl); (case aB => exact hB_); (case aF => exact (fun _ _ => trivial)); (case aO => exact (rr_ HO_6)); (case aS => exact (bF_ hB_)); (case aL => have := LMc28.out; omega); intro v483 w32 ho hb hg hat; rw [← Ny482.out] at ho; replace HO_3 := A_ (Kd.R_over' (rr_ HO_3) (Kd.R_typed (rr_ HO_6)) (by decide) hg); replace HO_4 := A_ (Kd.S_after (ok := (fun _ => True)) (sw_ (Kd.S_mono HO_4.out (fun _ hk => ⟨trivial, hk⟩))) hg hat); replace HB := A_ hb; have HO484 := A_ ho; clear HO_6; clear ho hb hg hat; have p485 : 0 ≤ (x7_2 : Int) := oB_ qe_; have q485 : x7_2 < (l0.length : Int) := oB_ qe_; obtain ⟨ad485, e485, hx485_0⟩ := Kd.at_int HR0.out x7_2 p485 q485; cases e485; replace hx485_0 := (HB.out.cell (World.block_lt_of_cell? w _ hx485_0)).trans hx485_0; replace p485 := eq_true p485; replace q485 := eq_true q485))
         (try simp only [← hl3_2])
         go_roundg k2
         case measure => have := HK1.out; have := HK2.out; omega
         case rel => exact ⟨(y481), (y482), (rd l0 x7_2), qc_, H', ⟨by have := HK1.out; have := HK2.out; omega⟩, ⟨by (try simp only [hl3_2]); (with_reducible repeat (first | apply rA_ | apply rB_ | apply rC_)); exact HO_3.out⟩, ⟨by (try simp only [hl3_2]); (with_reducible repeat (first | apply Kd.S_alloc | apply Kd.S_drewN | apply Kd.S_drew)); exact Kd.S_mono HO_4.out (fun _ hk => hk.2)⟩, ⟨by (try simp only [hl3_2]); (with_reducible repeat (first | apply rA_ | apply rB_ | apply rC_)); exact HO484.out⟩, ⟨hB_⟩⟩
    ·rw [if_neg c11] at H
     have c11b0 := oD_ c11
     clear c11
     obtain rfl := Option.some.inj H
     go_wp2
     go_ret
     exact ⟨_, qb_, (ss_ HO_4), hB_⟩
 ·replace c3 := Bool.eq_false_iff.mpr c3
  subst c3
  have H1 : (some ([] : List (List Int))) = some r := by rw [if_neg (show ¬ (false = true) by decide)] at H; exact H
  clear H
  have H := H1
  clear H1
  obtain rfl := Option.some.inj H
  go_enter Try.func102, Try.ntmps102
  go_wp2_with (first | ((with_reducible refine gA_ (f := 107) rfl ?_); refine gL_ (some 9) Try.func107 #[.slice A0 l0.length c0] rfl qa_ ?_; (with_reducible refine (Z49.calls k _ _ l0 false _ (cc_ HR0) HC0.out A2.out).mono ?_); rintro e w33 ⟨rfl, hb⟩; refine ⟨_, rfl, ?_⟩; replace HB := b1_ hb; clear hb))
  go_ret
  exact ⟨_, qb_, by first | exact Kd.S_nil _ _ _ _ _ | exact Kd.N_nil _ _ _ _ _ | exact Kd.V_nil _ _ _ _ _ | exact Kd.Q_nil _ _ _ _ _ | exact Kd.R_nil _ _ _ _ _, hB_⟩
end Go.Proofs.Ytcggfjpnfodbaaa.A
end
section
namespace Go.Proofs.Ytcggfjpnfodbaaa.A
open Go.RowKit Go.Proofs.YtcggfjpnfodbaaaW.PrintWords Go.Proofs.YtcggfjpnfodbaaaW.PrintLast Go.Proofs.YtcggfjpnfodbaaaW.PrintMore
attribute [local go_sem] max2_int min2_int max_two min_two max_three min_three max_four min_four
set_option linter.unusedVariables false
set_option linter.unusedSimpArgs false
def Z33.f (k : Nat) (l0_0 : List Int) (l0_1 : List Int) : Option (List Int) := (Z29.f k l0_0 l0_1).bind fun t487 => (if t487 = true then ((Z37.f k l0_0 l0_1).bind fun t488 => ((Z18.f k l0_0).bind fun t491 => ((Z18.f k l0_1).bind fun t494 => ((Z37.f k t491 t494).bind fun t497 => ((Z37.f k t488 t497).bind fun t500 => (some t500)))))) else (some ([] : List Int)))
theorem Z33.mono : ∀ a0 a1 k, LeO (Z33.f k a0 a1) (Z33.f (k + 1) a0 a1) := by
 intro a0 a1 k
 unfold Z33.f
 repeat' first|exact Z18.mono _ _|exact Z29.mono _ _ _|exact Z37.mono _ _ _|exact lo_|refine LeO.ite ?_ ?_|refine LeO.bind ?_ (fun _ => ?_)
def Z33.T3 : Bool × List (List Nat × List Nat) := (true, [([], []), ([0], [0]), ([], []), ([2], [2]), ([1, 3], [1, 3]), ([], []), ([5], [5]), ([6, 4], [6]), ([], []), ([8], [8]), ([9, 7], [9]), ([7, 10, 10], [7, 10]), ([4, 11, 11], [4, 11]), ([12, 12, 0, 1, 2, 3, 4, 5, 6, 7, 8, 9, 10, 11, 12], [12])])
def Z33.B3 : List Nat := [0, 1, 0, 4, 15, 0, 32, 127, 0, 256, 1023, 2047, 4095, 8191]
theorem Z33.tab3 : rtab .any (opsOf Try.f140 3) = Z33.T3 := by kernel_rfl
theorem Z33.bits3 : waitsOk Z33.T3.2 Z33.B3 = true := by kernel_rfl
set_option maxHeartbeats 8000000 in
set_option maxRecDepth 100000 in
theorem Z33.calls (k : Nat) (A0_0 : Option Addr) (c0_0 : Nat) (l0_0 : List Int) (A0_1 : Option Addr) (c0_1 : Nat) (l0_1 : List Int) (r : List Int) (w : World) (hr0_0 : Kd.C (Kd.int .i64) w A0_0 l0_0.length l0_0) (hc0_0 : l0_0.length ≤ c0_0) (hr0_1 : Kd.C (Kd.int .i64) w A0_1 l0_1.length l0_1) (hc0_1 : l0_1.length ≤ c0_1) (h : Z33.f k l0_0 l0_1 = some r) :
  Calls Try.prog 140 #[.agg #[.slice A0_0 l0_0.length c0_0, .slice A0_1 l0_1.length c0_1]] w fun e w' => ∃ v0_ : Value, e = .returned (v0_) ∧ Kd.R (Kd.int .i64) 3 w' w.heap.size (fun _ => True) v0_ r ∧ Below w.heap.size w w' := by
 have hu25 := Try.underlying25
 have HR0_0 := A_ hr0_0
 have HC0_0 := A_ hc0_0
 clear hr0_0 hc0_0
 have HR0_1 := A_ hr0_1
 have HC0_1 := A_ hc0_1
 clear hr0_1 hc0_1
 have HB := A_ (Below.refl w.heap.size w)
 have H := h
 unfold Z33.f at H
 clear h
 obtain ⟨t487, A2, H⟩ := bi_ H
 by_cases c3 : t487 = true
 ·subst c3
  rw [if_pos rfl] at H
  obtain ⟨t488, A4, H⟩ := bi_ H
  obtain ⟨t491, A5, H⟩ := bi_ H
  obtain ⟨t494, A6, H⟩ := bi_ H
  obtain ⟨t497, A7, H⟩ := bi_ H
  obtain ⟨t500, A8, H⟩ := bi_ H
  obtain rfl := Option.some.inj H
  go_enter Try.func140, Try.ntmps140
  try go_wp2_with (first | ((with_reducible refine gB_ (N := 1) rfl ?_); refine bx_ 1 #[.slice A0_0 l0_0.length c0_0, .slice A0_1 l0_1.length c0_1] 25 ?_; intro gb486 hg w9 hbox hb; have BK486 := A_ hbox; have GW486 := gw_ w hg; have GE486 := GW486; replace HB := b1_ hb; clear hb hbox hg; obtain ⟨hcz10_0, hcz10_1, hfz10_0, hfz10_1⟩ := c2_ BK486) | ((with_reducible refine gA_ (f := 66) rfl ?_); refine gL_ (some 4) Try.func66 #[.agg #[.slice A0_0 l0_0.length c0_0, .slice A0_1 l0_1.length c0_1]] rfl qa_ ?_; (with_reducible refine (Z29.calls k _ _ l0_0 _ _ l0_1 true _ (cb_ HR0_0) HC0_0.out (cb_ HR0_1) HC0_1.out A2.out).mono ?_); rintro e w11 ⟨rfl, hb⟩; refine ⟨_, rfl, ?_⟩; replace BK486 := bb_ BK486 hb; replace HB := b1_ hb; clear hb))
  replace BK486 := A_ (kB_ BK486.out)
  replace HB := A_ (bC_ HB.out)
  refine start_ (n := 14) (S := fun w' => w'.cell? ⟨gb486, 0, none⟩ = some (.slice A0_0 l0_0.length c0_0) ∧ w'.cell? ⟨gb486, 1, none⟩ = some (.slice A0_1 l0_1.length c0_1)) (ds := []) (bl_ 14 0) (by kernel_rfl) rfl (by kernel_rfl) ⟨cz0_ BK486, cz1_ BK486⟩ (fun hHeld => ?_); refine with_tabW Z33.tab3 Z33.bits3 (fun HT_ HW_ => ?_)
  generalize w11.drew = w12 at BK486 HB hHeld ⊢
  refine pu_ 0 (some 6) (bl_ 14 1) HT_ ?_
  refine pu_ 2 (some 8) (bl_ 14 5) HT_ ?_
  refine pu_ 5 (some 11) (bl_ 14 37) HT_ ?_
  refine pu_ 8 (some 14) (bl_ 14 293) HT_ ?_
  refine ta_ 1 (some 7) (bl_ 14 295) HT_ HW_ hHeld ?_
  refine ta_ 3 (some 9) (bl_ 14 303) HT_ HW_ hHeld ?_
  refine ta_ 6 (some 12) (bl_ 14 367) HT_ HW_ hHeld ?_
  refine ta_ 9 (some 15) (bl_ 14 879) HT_ HW_ hHeld ?_
  refine on_ 4 (some 10) (bl_ 14 895) HT_ (fun K hK => ?_)
  refine gO_ Try.func68 #[.slice A0_0 l0_0.length c0_0, .slice A0_1 l0_1.length c0_1] (by rfl) rfl rfl qa_ ?_
  with_reducible refine (Z37.calls k _ _ l0_0 _ _ l0_1 t488 _ (cb_ HR0_0) HC0_0.out (cb_ HR0_1) HC0_1.out A4.out).mono ?_
  rintro e w13 ⟨v489, rfl, ho0, hb⟩
  refine ⟨_, rfl, ?_⟩
  have HO490 := rl_ w ho0
  replace BK486 := bb_ BK486 hb
  replace HB := b1_ hb
  clear hb ho0
  refine hK.out _ _ ⟨cz0_ BK486, cz1_ BK486⟩ (fun hHeld => ?_)
  clear hK K
  refine no_ (some 10) ?_
  refine on_ 7 (some 13) (bl_ 14 1023) HT_ (fun K hK => ?_)
  refine gO_ Try.func69 #[.slice A0_0 l0_0.length c0_0] (by rfl) rfl rfl qa_ ?_
  with_reducible refine (Z18.calls k _ _ l0_0 t491 _ (cb_ HR0_0) HC0_0.out A5.out).mono ?_
  rintro e w14 ⟨v492, rfl, ho0, hb⟩
  refine ⟨_, rfl, ?_⟩
  have HO493 := A_ (rE_ (Kd.R_new' ho0 (Kd.R_lt (rr_ HO490))) (bF_ hB_))
  replace HO490 := A_ (Kd.R_elder' (rr_ HO490) (Kd.R_base ho0) hb)
  replace BK486 := bb_ BK486 hb
  replace HB := b1_ hb
  clear hb ho0
  refine hK.out _ _ ⟨cz0_ BK486, cz1_ BK486⟩ (fun hHeld => ?_)
  clear hK K
  refine no_ (some 13) ?_
  refine on_ 10 (some 16) (bl_ 14 2047) HT_ (fun K hK => ?_)
  refine gO_ Try.func69 #[.slice A0_1 l0_1.length c0_1] (by rfl) rfl rfl qa_ ?_
  with_reducible refine (Z18.calls k _ _ l0_1 t494 _ (cb_ HR0_1) HC0_1.out A6.out).mono ?_
  rintro e w15 ⟨v495, rfl, ho0, hb⟩
  refine ⟨_, rfl, ?_⟩
  have HO496 := A_ (rE_ (Kd.R_new' (Kd.R_new' ho0 (Kd.R_lt (rr_ HO490))) (Kd.R_lt (rr_ HO493))) (bF_ hB_))
  replace HO490 := A_ (Kd.R_elder' (rr_ HO490) (Kd.R_base ho0) hb)
  replace HO493 := A_ (Kd.R_elder' (rr_ HO493) (Kd.R_base ho0) hb)
  replace BK486 := bb_ BK486 hb
  replace HB := b1_ hb
  clear hb ho0
  obtain ⟨Ao16, co16, eo16⟩ := Kd.R_slice HO493.out
  (first | subst eo16 | (injection eo16 with f1_ f2_ f3_; have f4_ := f1_.symm; have f5_ := f3_.symm; clear f1_ f2_ f3_; subst f4_; subst f5_))
  obtain ⟨Ao17, co17, eo17⟩ := Kd.R_slice HO496.out
  (first | subst eo17 | (injection eo17 with f1_ f2_ f3_; have f4_ := f1_.symm; have f5_ := f3_.symm; clear f1_ f2_ f3_; subst f4_; subst f5_))
  refine hK.out _ _ ⟨cz0_ BK486, cz1_ BK486⟩ (fun hHeld => ?_)
  clear hK K
  refine no_ (some 16) ?_
  refine on_ 11 (some 17) (bl_ 14 4095) HT_ (fun K hK => ?_)
  refine gO_ Try.func68 #[.slice Ao16 t491.length co16, .slice Ao17 t494.length co17] (by rfl) rfl rfl qa_ ?_
  with_reducible refine (Z37.calls k _ _ t491 _ _ t494 t497 _ (cr_ HO493) ((Kd.R_reads' HO493.out).2.1) (cr_ HO496) ((Kd.R_reads' HO496.out).2.1) A7.out).mono ?_
  rintro e w18 ⟨v498, rfl, ho0, hb⟩
  refine ⟨_, rfl, ?_⟩
  have HO499 := A_ (rE_ (Kd.R_new' (Kd.R_new' (Kd.R_new' ho0 (Kd.R_lt (rr_ HO490))) (Kd.R_lt (rr_ HO493))) (Kd.R_lt (rr_ HO496))) (bF_ hB_))
  replace HO490 := A_ (Kd.R_elder' (rr_ HO490) (Kd.R_base ho0) hb)
  replace HO493 := A_ (Kd.R_elder' (rr_ HO493) (Kd.R_base ho0) hb)
  replace HO496 := A_ (Kd.R_elder' (rr_ HO496) (Kd.R_base ho0) hb)
  replace BK486 := bb_ BK486 hb
  replace HB := b1_ hb
  clear hb ho0
  obtain ⟨Ao19, co19, eo19⟩ := Kd.R_slice HO490.out
  (first | subst eo19 | (injection eo19 with f1_ f2_ f3_; have f4_ := f1_.symm; have f5_ := f3_.symm; clear f1_ f2_ f3_; subst f4_; subst f5_))
  obtain ⟨Ao20, co20, eo20⟩ := Kd.R_slice HO499.out
  (first | subst eo20 | (injection eo20 with f1_ f2_ f3_; have f4_ := f1_.symm; have f5_ := f3_.symm; clear f1_ f2_ f3_; subst f4_; subst f5_))
  refine hK.out _ _ ⟨cz0_ BK486, cz1_ BK486⟩ (fun hHeld => ?_)
  clear hK K
  refine no_ (some 17) ?_
  refine on_ 12 (some 18) (bl_ 14 8191) HT_ (fun K hK => ?_)
  refine gO_ Try.func68 #[.slice Ao19 t488.length co19, .slice Ao20 t497.length co20] (by rfl) rfl rfl qa_ ?_
  with_reducible refine (Z37.calls k _ _ t488 _ _ t497 t500 _ (cr_ HO490) ((Kd.R_reads' HO490.out).2.1) (cr_ HO499) ((Kd.R_reads' HO499.out).2.1) A8.out).mono ?_
  rintro e w21 ⟨v501, rfl, ho0, hb⟩
  refine ⟨_, rfl, ?_⟩
  have HO502 := A_ (rE_ (Kd.R_new' (Kd.R_new' (Kd.R_new' (Kd.R_new' ho0 (Kd.R_lt (rr_ HO490))) (Kd.R_lt (rr_ HO493))) (Kd.R_lt (rr_ HO496))) (Kd.R_lt (rr_ HO499))) (bF_ hB_))
  replace HO490 := A_ (Kd.R_elder' (rr_ HO490) (Kd.R_base ho0) hb)
  replace HO493 := A_ (Kd.R_elder' (rr_ HO493) (Kd.R_base ho0) hb)
  replace HO496 := A_ (Kd.R_elder' (rr_ HO496) (Kd.R_base ho0) hb)
  replace HO499 := A_ (Kd.R_elder' (rr_ HO499) (Kd.R_base ho0) hb)
  replace BK486 := bb_ BK486 hb
  replace HB := b1_ hb
  clear hb ho0
  refine hK.out _ _ ⟨cz0_ BK486, cz1_ BK486⟩ (fun hHeld => ?_)
  clear hK K
  refine no_ (some 18) ?_
  refine pu_ 13 (some 2) (bl_ 14 16383) HT_ ?_
  refine done_ (done_of HT_.out (by kernel_rfl)) ?_
  try go_wp2
  go_ret
  exact ⟨_, qb_, (rw_ (Kd.R_mono HO502.out (fun _ hk => trivial))), hB_⟩
 ·replace c3 := Bool.eq_false_iff.mpr c3
  subst c3
  have H1 : (some ([] : List Int)) = some r := by rw [if_neg (show ¬ (false = true) by decide)] at H; exact H
  clear H
  have H := H1
  clear H1
  obtain rfl := Option.some.inj H
  go_enter Try.func140, Try.ntmps140
  go_wp2_with (first | ((with_reducible refine gB_ (N := 1) rfl ?_); refine bx_ 1 #[.slice A0_0 l0_0.length c0_0, .slice A0_1 l0_1.length c0_1] 25 ?_; intro gb486 hg w22 hbox hb; have BK486 := A_ hbox; have GW486 := gw_ w hg; have GE486 := GW486; replace HB := b1_ hb; clear hb hbox hg; obtain ⟨hcz23_0, hcz23_1, hfz23_0, hfz23_1⟩ := c2_ BK486) | ((with_reducible refine gA_ (f := 66) rfl ?_); refine gL_ (some 4) Try.func66 #[.agg #[.slice A0_0 l0_0.length c0_0, .slice A0_1 l0_1.length c0_1]] rfl qa_ ?_; (with_reducible refine (Z29.calls k _ _ l0_0 _ _ l0_1 false _ (cb_ HR0_0) HC0_0.out (cb_ HR0_1) HC0_1.out A2.out).mono ?_); rintro e w24 ⟨rfl, hb⟩; refine ⟨_, rfl, ?_⟩; replace BK486 := bb_ BK486 hb; replace HB := b1_ hb; clear hb))
  go_ret
  exact ⟨_, qb_, by first | exact Kd.R_nil _ _ _ _ _ | exact Kd.N_nil _ _ _ _ _ | exact Kd.V_nil _ _ _ _ _ | exact Kd.Q_nil _ _ _ _ _ | exact Kd.S_nil _ _ _ _ _, hB_⟩
def Z6.l0 : Nat → List Int → Int → Int → Int → Option (Int)
 | 0, _, _, _, _ => none
 | k + 1, x0, x1, x7, x8 => if x8 < x7 then (if 0 ≤ x8 then (if x8 < (x0.length : Int) then (if x1 = (rd x0 x8) then (some x8) else (Z6.l0 k x0 x1 x7 (wrap64 (x8 + 1)))) else (none)) else (none)) else (some (-1))
def Z6.f (k : Nat) (l0 : List Int) (a1 : Int) : Option (Int) := Z6.l0 k l0 a1 (l0.length : Int) 0
theorem Z6.mono_l : ∀ k, (∀ y0 y1 y2 y3, LeO (Z6.l0 k y0 y1 y2 y3) (Z6.l0 (k + 1) y0 y1 y2 y3))
 | 0 => fun _ _ _ _ r h => by simp [Z6.l0] at h
 | k + 1 => by
  have ih0 := Z6.mono_l k
  ·intro y0 y1 y2 y3
   unfold Z6.l0
   repeat' first|exact ih0 _ _ _ _|exact lo_|refine LeO.ite ?_ ?_|refine LeO.bind ?_ (fun _ => ?_)
theorem Z6.mono : ∀ a0 a1 k, LeO (Z6.f k a0 a1) (Z6.f (k + 1) a0 a1) := by
 intro a0 a1 k
 have ih0 := Z6.mono_l k
 unfold Z6.f
 repeat' first|exact ih0 _ _ _ _|exact lo_|refine LeO.ite ?_ ?_|refine LeO.bind ?_ (fun _ => ?_)
set_option maxHeartbeats 8000000 in
set_option maxRecDepth 100000 in
theorem Z6.calls (k : Nat) (A0 : Option Addr) (c0 : Nat) (l0 : List Int) (a1 : Int) (r : Int) (w : World) (hr0 : Kd.C (Kd.int .i64) w A0 l0.length l0) (hc0 : l0.length ≤ c0) (h : Z6.f k l0 a1 = some r) :
  Calls Try.prog 166 #[.slice A0 l0.length c0, .int .i64 a1] w fun e w' => e = .returned (.int .i64 r) ∧ Drawn0 w w' := by
 have HR0 := A_ hr0
 have HC0 := A_ hc0
 clear hr0 hc0
 have H := h
 unfold Z6.f at H
 clear h
 have H' := A_ H
 clear H
 go_enter Try.func166, Try.ntmps166
 go_wp2
 go_loopg [8] k (fun kq v8 w' => ∃ (x8_1 : Int), v8 = .int .i64 x8_1 ∧ Aside0 (Z6.l0 kq l0 a1 (l0.length : Int) x8_1 = some r) ∧ Aside0 (kq ≤ k) ∧ Drawn0 w w')
 case atStart => exact ⟨(0), qc_, H', ⟨nA_ _⟩, by repeat (first | exact Drawn0.refl _ | apply Drawn0.step)⟩
 case round =>
  clear H'
  obtain ⟨x8_1, rfl, HA, HK1, ⟨m1, rfl⟩⟩ := hrel
  cases gk with
  | zero => exact absurd HA.out (by simp [Z6.l0])
  | succ k1 =>
   have H := HA.out
   clear HA
   simp only [Z6.l0] at H
   by_cases c3 : x8_1 < (l0.length : Int)
   ·rw [if_pos c3] at H
    have c3b0 := oC_ c3
    clear c3
    have c4 := cp_ H
    replace H := ca_ H
    have c4b0 := oC_ c4
    clear c4
    have c5 := cp_ H
    replace H := ca_ H
    have c5b0 := oC_ c5
    clear c5
    by_cases c6 : a1 = (rd l0 x8_1)
    ·rw [if_pos c6] at H
     have c6b0 : (a1 == (rd l0 x8_1)) = true := beq_iff_eq.mpr c6
     have c6b1 : (a1 != (rd l0 x8_1)) = false := bne_eq_false_iff_eq.mpr c6
     clear c6
     obtain rfl := Option.some.inj H
     have p503 : 0 ≤ (x8_1 : Int) := oB_ qe_
     have q503 : x8_1 < (l0.length : Int) := oB_ qe_
     obtain ⟨ad503, e503, hx503_0⟩ := Kd.at_int HR0.out x8_1 p503 q503
     cases e503
     replace p503 := eq_true p503
     replace q503 := eq_true q503
     go_wp2
     go_ret
     exact ⟨qc_, by repeat (first | exact Drawn0.refl _ | apply Drawn0.step)⟩
    ·rw [if_neg c6] at H
     have c6b0 : (a1 == (rd l0 x8_1)) = false := beq_eq_false_iff_ne.mpr c6
     have c6b1 : (a1 != (rd l0 x8_1)) = true := bne_iff_ne.mpr c6
     have H' := A_ H
     clear H
     have p503 : 0 ≤ (x8_1 : Int) := oB_ qe_
     have q503 : x8_1 < (l0.length : Int) := oB_ qe_
     obtain ⟨ad503, e503, hx503_0⟩ := Kd.at_int HR0.out x8_1 p503 q503
     cases e503
     replace p503 := eq_true p503
     replace q503 := eq_true q503
     go_wp2
     go_roundg k1
     case measure => have := HK1.out; omega
     case rel => exact ⟨(wrap64 (x8_1 + 1)), qc_, H', ⟨by have := HK1.out; omega⟩, by repeat (first | exact Drawn0.refl _ | apply Drawn0.step)⟩
   ·rw [if_neg c3] at H
    have c3b0 := oD_ c3
    clear c3
    obtain rfl := Option.some.inj H
    go_wp2
    go_ret
    exact ⟨qc_, by repeat (first | exact Drawn0.refl _ | apply Drawn0.step)⟩
def Z1.f (k : Nat) (l0 : List Int) (a1 : Int) : Option (Bool) := (Z6.f k l0 a1).bind fun t504 => (some (decide (t504 ≥ 0)))
theorem Z1.mono : ∀ a0 a1 k, LeO (Z1.f k a0 a1) (Z1.f (k + 1) a0 a1) := by
 intro a0 a1 k
 unfold Z1.f
 repeat' first|exact Z6.mono _ _ _|exact lo_|refine LeO.ite ?_ ?_|refine LeO.bind ?_ (fun _ => ?_)
set_option maxHeartbeats 8000000 in
set_option maxRecDepth 100000 in
theorem Z1.calls (k : Nat) (A0 : Option Addr) (c0 : Nat) (l0 : List Int) (a1 : Int) (r : Bool) (w : World) (hr0 : Kd.C (Kd.int .i64) w A0 l0.length l0) (hc0 : l0.length ≤ c0) (h : Z1.f k l0 a1 = some r) :
  Calls Try.prog 160 #[.slice A0 l0.length c0, .int .i64 a1] w fun e w' => e = .returned (.bool r) ∧ Drawn0 w w' := by
 have HR0 := A_ hr0
 have HC0 := A_ hc0
 clear hr0 hc0
 have H := h
 unfold Z1.f at H
 clear h
 obtain ⟨t504, A3, H⟩ := bi_ H
 obtain rfl := Option.some.inj H
 go_enter Try.func160, Try.ntmps160
 go_wp2_with (first | ((with_reducible refine gA_ (f := 166) rfl ?_); refine gL_ (some 7) Try.func166 #[.slice A0 l0.length c0, .int .i64 a1] rfl qa_ ?_; (with_reducible refine (Z6.calls k _ _ l0 a1 t504 _ (cc_ HR0) HC0.out A3.out).mono ?_); rintro e w' ⟨rfl, ⟨nd, rfl⟩⟩; refine ⟨_, rfl, ?_⟩))
 go_ret
 exact ⟨qc_, by repeat (first | exact Drawn0.refl _ | apply Drawn0.step)⟩
def Z53.l0 : Nat → Int → List (List Int) → Int → Int → Option (List Int)
 | 0, _, _, _, _ => none
 | k + 1, x1, x9, x10, x11 => if x11 < x10 then (if 0 ≤ x11 then (if x11 < (x9.length : Int) then ((Z1.f k (rd_L2 x9 x11) x1).bind fun t510 => (if t510 = true then (some (rd_L2 x9 x11)) else (Z53.l0 k x1 x9 x10 (wrap64 (x11 + 1))))) else (none)) else (none)) else (some ([] : List Int))
def Z53.f (k : Nat) (l0_0 : List Int) (l0_1 : List Int) (a1 : Int) : Option (List Int) := (Z34.f k l0_0).bind fun t506 => (Z53.l0 k a1 t506 (t506.length : Int) 0)
theorem Z53.mono_l : ∀ k, (∀ y0 y1 y2 y3, LeO (Z53.l0 k y0 y1 y2 y3) (Z53.l0 (k + 1) y0 y1 y2 y3))
 | 0 => fun _ _ _ _ r h => by simp [Z53.l0] at h
 | k + 1 => by
  have ih0 := Z53.mono_l k
  ·intro y0 y1 y2 y3
   unfold Z53.l0
   repeat' first|exact ih0 _ _ _ _|exact Z34.mono _ _|exact Z1.mono _ _ _|exact lo_|refine LeO.ite ?_ ?_|refine LeO.bind ?_ (fun _ => ?_)
theorem Z53.mono : ∀ a0 a1 a2 k, LeO (Z53.f k a0 a1 a2) (Z53.f (k + 1) a0 a1 a2) := by
 intro a0 a1 a2 k
 have ih0 := Z53.mono_l k
 unfold Z53.f
 repeat' first|exact ih0 _ _ _ _|exact Z34.mono _ _|exact Z1.mono _ _ _|exact lo_|refine LeO.ite ?_ ?_|refine LeO.bind ?_ (fun _ => ?_)
set_option maxHeartbeats 8000000 in
set_option maxRecDepth 100000 in
theorem Z53.calls (k : Nat) (A0_0 : Option Addr) (c0_0 : Nat) (l0_0 : List Int) (A0_1 : Option Addr) (c0_1 : Nat) (l0_1 : List Int) (a1 : Int) (r : List Int) (w : World) (hr0_0 : Kd.C (Kd.int .i64) w A0_0 l0_0.length l0_0) (hc0_0 : l0_0.length ≤ c0_0) (hr0_1 : Kd.C (Kd.int .i64) w A0_1 l0_1.length l0_1) (hc0_1 : l0_1.length ≤ c0_1) (h : Z53.f k l0_0 l0_1 a1 = some r) :
  Calls Try.prog 141 #[.agg #[.slice A0_0 l0_0.length c0_0, .slice A0_1 l0_1.length c0_1], .int .i64 a1] w fun e w' => ∃ v0_ : Value, e = .returned (v0_) ∧ Kd.R (Kd.int .i64) 3 w' w.heap.size (fun _ => True) v0_ r ∧ Below w.heap.size w w' := by
 have hu25 := Try.underlying25
 have HR0_0 := A_ hr0_0
 have HC0_0 := A_ hc0_0
 clear hr0_0 hc0_0
 have HR0_1 := A_ hr0_1
 have HC0_1 := A_ hc0_1
 clear hr0_1 hc0_1
 have HB := A_ (Below.refl w.heap.size w)
 have H := h
 unfold Z53.f at H
 clear h
 obtain ⟨t506, A3, H⟩ := bi_ H
 have H' := A_ H
 clear H
 go_enter Try.func141, Try.ntmps141
 go_wp2_with (first | ((with_reducible refine gB_ (N := 2) rfl ?_); refine bx_ 2 #[.slice A0_0 l0_0.length c0_0, .slice A0_1 l0_1.length c0_1] 25 ?_; intro gb505 hg w4 hbox hb; have BK505 := A_ hbox; have GW505 := gw_ w hg; have GE505 := GW505; replace HB := b1_ hb; clear hb hbox hg; obtain ⟨hcz5_0, hcz5_1, hfz5_0, hfz5_1⟩ := c2_ BK505) | ((with_reducible refine gA_ (f := 102) rfl ?_); refine gL_ (some 9) Try.func102 #[.slice A0_0 l0_0.length c0_0] rfl qa_ ?_; (with_reducible refine (Z34.calls k _ _ l0_0 t506 _ (cb_ HR0_0) HC0_0.out A3.out).mono ?_); rintro e w6 ⟨v507, rfl, ho0, hb⟩; refine ⟨_, rfl, ?_⟩; have HO508 := A_ (Kd.S_lower ho0 (bF_ hB_)); replace BK505 := bb_ BK505 hb; replace HB := b1_ hb; clear hb ho0; obtain ⟨Ao7, co7, eo7⟩ := Kd.S_slice HO508.out; subst eo7))
 go_loopg [11] k (fun kq v11 w' => ∃ (x11_1 : Int), v11 = .int .i64 x11_1 ∧ Aside0 (Z53.l0 kq a1 t506 (t506.length : Int) x11_1 = some r) ∧ Aside0 (kq ≤ k) ∧ Aside0 (Kd.S (Kd.slice 3 (Kd.int .i64)) 23 w' w.heap.size (fun _ => True) (.slice Ao7 t506.length co7) t506) ∧ Aside0 (w'.heap[gb505]? = some (.cells #[(.slice A0_0 l0_0.length c0_0), (.slice A0_1 l0_1.length c0_1)] 25 (0, 0))) ∧ Aside0 (Below w.heap.size w w'))
 case atStart => exact ⟨(0), qc_, H', ⟨nA_ _⟩, ⟨(ss_ HO508)⟩, ⟨(kk_ BK505)⟩, ⟨hB_⟩⟩
 case round =>
  clear H'
  obtain ⟨x11_1, rfl, HA, HK1, HO_9, BK505, HB⟩ := hrel
  cases gk with
  | zero => exact absurd HA.out (by simp [Z53.l0])
  | succ k1 =>
   have H := HA.out
   clear HA
   simp only [Z53.l0] at H
   by_cases c8 : x11_1 < (t506.length : Int)
   ·rw [if_pos c8] at H
    have c8b0 := oC_ c8
    clear c8
    have c9 := cp_ H
    replace H := ca_ H
    have c9b0 := oC_ c9
    clear c9
    have c10 := cp_ H
    replace H := ca_ H
    have c10b0 := oC_ c10
    clear c10
    obtain ⟨t510, A11, H⟩ := bi_ H
    by_cases c12 : t510 = true
    ·subst c12
     rw [if_pos rfl] at H
     obtain rfl := Option.some.inj H
     have p509 : 0 ≤ (x11_1 : Int) := oB_ qe_
     have q509 : x11_1 < (t506.length : Int) := oB_ qe_
     obtain ⟨ad509, A509_0, c509_0, e509, hx509_0, hl509_0, hi509_0⟩ := at_L2 (Kd.S_reads' HO_9.out).2.2 x11_1 p509 q509
     cases e509
     obtain ⟨ce509, hce509, hMe509, hcc509⟩ := Kd.S_get HO_9.out [] x11_1 p509 (by first | exact q509 | exact oB_ qe_ | (have e_ := (Kd.S_reads' HO_9.out).1; omega))
     obtain ⟨ve509_0, rfl, ge509_0⟩ := hMe509
     have hv509_0 := hcc509 0 _ rfl
     rw [Nat.add_zero, show ((Kd.slice 3 (Kd.int .i64))).sz = 1 from rfl, Nat.mul_one] at hv509_0
     replace hv509_0 := Option.some.inj (hv509_0.symm.trans hx509_0)
     rw [hv509_0] at ge509_0
     have HL509_0 := A_ (show Kd.R (Kd.int .i64) 3 _ _ _ _ (rd_L2 t506 x11_1) from ge509_0)
     clear hv509_0 ge509_0
     clear hcc509 hce509
     have HR509_0 := A_ hi509_0
     have HC509_0 := A_ hl509_0
     clear hi509_0 hl509_0
     replace p509 := eq_true p509
     replace q509 := eq_true q509
     go_wp2_with (first | ((with_reducible refine gA_ (f := 160) rfl ?_); refine gL_ (some 17) Try.func160 #[.slice A509_0 (rd_L2 t506 x11_1).length c509_0, .int .i64 a1] rfl qa_ ?_; (with_reducible refine (Z1.calls k1 _ _ (rd_L2 t506 x11_1) a1 true _ ?side1 ?side2 A11.out).mono ?_); (case side1 => repeat (first | exact (by repeat (first | (with_reducible exact HR509_0.out) | (with_reducible refine cA_ ?_ _) | (with_reducible refine cB_ ?_ _) | (with_reducible refine cC_ ?_) | exact HR509_0.out)) | (with_reducible first | refine cA_ ?_ _ | refine cB_ ?_ _ | refine cC_ ?_))); (case side2 => exact HC509_0.out); rintro e w' ⟨rfl, ⟨nd, rfl⟩⟩; refine ⟨_, rfl, ?_⟩))
     go_ret
     exact ⟨_, qb_, (rw_ (Kd.R_mono HL509_0.out (fun _ hk => trivial))), hB_⟩
    ·replace c12 := Bool.eq_false_iff.mpr c12
     subst c12
     have H1 : (Z53.l0 k1 a1 t506 (t506.length : Int) (wrap64 (x11_1 + 1))) = some r := by rw [if_neg (show ¬ (false = true) by decide)] at H; exact H
     clear H
     have H := H1
     clear H1
     have H' := A_ H
     clear H
     have p509 : 0 ≤ (x11_1 : Int) := oB_ qe_
     have q509 : x11_1 < (t506.length : Int) := oB_ qe_
     obtain ⟨ad509, A509_0, c509_0, e509, hx509_0, hl509_0, hi509_0⟩ := at_L2 (Kd.S_reads' HO_9.out).2.2 x11_1 p509 q509
     cases e509
     obtain ⟨ce509, hce509, hMe509, hcc509⟩ := Kd.S_get HO_9.out [] x11_1 p509 (by first | exact q509 | exact oB_ qe_ | (have e_ := (Kd.S_reads' HO_9.out).1; omega))
     obtain ⟨ve509_0, rfl, ge509_0⟩ := hMe509
     have hv509_0 := hcc509 0 _ rfl
     rw [Nat.add_zero, show ((Kd.slice 3 (Kd.int .i64))).sz = 1 from rfl, Nat.mul_one] at hv509_0
     replace hv509_0 := Option.some.inj (hv509_0.symm.trans hx509_0)
     rw [hv509_0] at ge509_0
     have HL509_0 := A_ (show Kd.R (Kd.int .i64) 3 _ _ _ _ (rd_L2 t506 x11_1) from ge509_0)
     clear hv509_0 ge509_0
     clear hcc509 hce509
     have HR509_0 := A_ hi509_0
     have HC509_0 := A_ hl509_0
     clear hi509_0 hl509_0
     replace p509 := eq_true p509
     replace q509 := eq_true q509
     go_wp2_with (first | ((with_reducible refine gA_ (f := 160) rfl ?_); refine gL_ (some 17) Try.func160 #[.slice A509_0 (rd_L2 t506 x11_1).length c509_0, .int .i64 a1] rfl qa_ ?_; (with_reducible refine (Z1.calls k1 _ _ (rd_L2 t506 x11_1) a1 false _ ?side1 ?side2 A11.out).mono ?_); (case side1 => repeat (first | exact (by repeat (first | (with_reducible exact HR509_0.out) | (with_reducible refine cA_ ?_ _) | (with_reducible refine cB_ ?_ _) | (with_reducible refine cC_ ?_) | exact HR509_0.out)) | (with_reducible first | refine cA_ ?_ _ | refine cB_ ?_ _ | refine cC_ ?_))); (case side2 => exact HC509_0.out); rintro e w' ⟨rfl, ⟨nd, rfl⟩⟩; refine ⟨_, rfl, ?_⟩))
     go_roundg k1
     case measure => have := HK1.out; omega
     case rel => exact ⟨(wrap64 (x11_1 + 1)), qc_, H', ⟨by have := HK1.out; omega⟩, ⟨(ss_ HO_9)⟩, ⟨(kk_ BK505)⟩, ⟨hB_⟩⟩
   ·rw [if_neg c8] at H
    have c8b0 := oD_ c8
    clear c8
    obtain rfl := Option.some.inj H
    go_wp2
    go_ret
    exact ⟨_, qb_, by first | exact Kd.R_nil _ _ _ _ _ | exact Kd.N_nil _ _ _ _ _ | exact Kd.V_nil _ _ _ _ _ | exact Kd.Q_nil _ _ _ _ _ | exact Kd.S_nil _ _ _ _ _, hB_⟩
def Z12.l0 : Nat → List Int → Int → Int → Option Int
 | 0, _, _, _ => none
 | k + 1, l, m, i => if i < (l.length : Int) then (if 0 ≤ i then Z12.l0 k l (mn m (rd l i)) (wrap64 (i + 1)) else none) else some m
def Z12.f (k : Nat) (l0 : List Int) : Option Int := if (l0.length : Int) < 1 then none else Z12.l0 k l0 (rd l0 0) 1
theorem Z12.mono_l : ∀ k, (∀ y0 y1 y2, LeO (Z12.l0 k y0 y1 y2) (Z12.l0 (k + 1) y0 y1 y2))
 | 0 => fun _ _ _ r h => by simp [Z12.l0] at h
 | k + 1 => by
  have ih0 := Z12.mono_l k
  ·intro y0 y1 y2
   unfold Z12.l0
   repeat' first|exact ih0 _ _ _|exact lo_|refine LeO.ite ?_ ?_|refine LeO.bind ?_ (fun _ => ?_)
theorem Z12.mono : ∀ a0 k, LeO (Z12.f k a0) (Z12.f (k + 1) a0) := by
 intro a0 k
 unfold Z12.f
 exact LeO.ite (LeO.none _) (Z12.mono_l k _ _ _)
set_option maxHeartbeats 8000000 in
set_option maxRecDepth 100000 in
theorem Z12.calls (k : Nat) (A0 : Option Addr) (c0 : Nat) (l0 : List Int) (r : Int) (w : World) (hr0 : Kd.C (Kd.int .i64) w A0 l0.length l0) (hc0 : l0.length ≤ c0) (h : Z12.f k l0 = some r) :
  Calls Try.prog 142 #[.slice A0 l0.length c0] w fun e w' => e = .returned (.int .i64 r) ∧ Drawn0 w w' := by
 have HR0 := A_ hr0
 have HC0 := A_ hc0
 clear hr0 hc0
 unfold Z12.f at h
 by_cases c2 : (l0.length : Int) < 1
 ·rw [if_pos c2] at h
  cases h
 ·rw [if_neg c2] at h
  have c2b0 := oD_ c2
  have c2b1 : decide (l0.length < 1) = false := oD_ (by omega)
  have q0 : (0 : Int) < (l0.length : Int) := by omega
  clear c2
  obtain ⟨ad, e0, hx⟩ := Kd.at_int HR0.out 0 (by omega) q0
  cases e0
  (try simp only [show (0 : Int).toNat = 0 from rfl, Nat.reduceMul, Nat.reduceEqDiff, Go.Addr.add, ↓reduceIte] at hx)
  have q0n : 0 < l0.length := by omega
  have q0b := eq_true q0n
  clear q0n
  have H' := A_ h
  clear h
  go_enter Try.func142, Try.ntmps142
  go_wp2
  go_loopg [3, 4] k (fun kq v3 v4 w' => ∃ (m : Int) (i : Int), v3 = .int .i64 m ∧ v4 = .int .i64 i ∧ Aside0 (Z12.l0 kq l0 m i = some r) ∧ Aside0 (kq ≤ k) ∧ Drawn0 w w')
  case atStart => exact ⟨rd l0 0, 1, rfl, rfl, H', ⟨nA_ _⟩, Drawn0.refl _⟩
  case round =>
   clear H' hx
   obtain ⟨m, i, rfl, rfl, HA, HK1, ⟨nd, rfl⟩⟩ := hrel
   cases gk with
   | zero => exact absurd HA.out (by simp [Z12.l0])
   | succ k1 =>
    have H := HA.out
    clear HA
    simp only [Z12.l0] at H
    by_cases c3 : i < (l0.length : Int)
    ·rw [if_pos c3] at H
     have c4 := cp_ H
     replace H := ca_ H
     have c3b0 := oC_ c3
     have c4b0 := oC_ c4
     obtain ⟨ad', e0, hx⟩ := Kd.at_int HR0.out i c4 c3
     cases e0
     replace c3 := eq_true c3
     replace c4 := eq_true c4
     have H' := A_ H
     clear H
     go_wp2
     all_goals
      go_roundg k1
      case measure => have := HK1.out; omega
      case rel => exact ⟨mn m (rd l0 i), wrap64 (i + 1), (by unfold mn; split <;> first | rfl | (exfalso; omega) | (exfalso; simp_all)), rfl, H', ⟨by have := HK1.out; omega⟩, by repeat (first | exact Drawn0.refl _ | apply Drawn0.step)⟩
    ·rw [if_neg c3] at H
     have c3b0 := oD_ c3
     clear c3
     obtain rfl := Option.some.inj H
     go_wp2
     go_ret
     exact ⟨rfl, by repeat (first | exact Drawn0.refl _ | apply Drawn0.step)⟩
end Go.Proofs.Ytcggfjpnfodbaaa.A
end
section
namespace Go.Proofs.Ytcggfjpnfodbaaa.A
open Go.RowKit Go.Proofs.YtcggfjpnfodbaaaW.PrintWords Go.Proofs.YtcggfjpnfodbaaaW.PrintLast Go.Proofs.YtcggfjpnfodbaaaW.PrintMore
attribute [local go_sem] max2_int min2_int max_two min_two max_three min_three max_four min_four
set_option linter.unusedVariables false
set_option linter.unusedSimpArgs false
mutual
def Z35.j0 : Nat → Int → Bool → List Int → List Int → Option (Int)
 | 0, _, _, _, _ => none
 | k + 1, x1, x21, x512000, x512001 => if x21 = true then (some (-1)) else ((Z33.f k x512000 x512001).bind fun t513 => ((Z53.f k x512000 x512001 x1).bind fun t516 => (Z35.l0 k x1 t513 t516 (t516.length : Int) 0 x512000 x512001)))
def Z35.l0 : Nat → Int → List Int → List Int → Int → Int → List Int → List Int → Option (Int)
 | 0, _, _, _, _, _, _, _ => none
 | k + 1, x1, x5, x26, x27, x28, x512000, x512001 => if x28 < x27 then (if 0 ≤ x28 then (if x28 < (x26.length : Int) then (if 0 ≤ (rd x26 x28) then (if (rd x26 x28) < (x5.length : Int) then (if (rd x5 (rd x26 x28)) = (rd x26 x28) then (Z35.l0 k x1 x5 x26 x27 (wrap64 (x28 + 1)) x512000 x512001) else (some (-1))) else (none)) else (none)) else (none)) else (none)) else (if 0 ≤ x1 then (if x1 < (x512001.length : Int) then ((Z53.f k x512000 x512001 (rd x512001 x1)).bind fun t522 => ((Z12.f k t522).bind fun t525 => (some t525))) else (none)) else (none))
end
def Z35.f (k : Nat) (l0_0 : List Int) (l0_1 : List Int) (a1 : Int) : Option (Int) := (Z29.f k l0_0 l0_1).bind fun t512 => (if t512 = true then (if a1 < 0 then (Z35.j0 k a1 true l0_0 l0_1) else (Z35.j0 k a1 (decide (a1 ≥ (l0_0.length : Int))) l0_0 l0_1)) else (Z35.j0 k a1 true l0_0 l0_1))
theorem Z35.mono_l : ∀ k, (∀ y0 y1 y2 y3, LeO (Z35.j0 k y0 y1 y2 y3) (Z35.j0 (k + 1) y0 y1 y2 y3)) ∧ (∀ y0 y1 y2 y3 y4 y5 y6, LeO (Z35.l0 k y0 y1 y2 y3 y4 y5 y6) (Z35.l0 (k + 1) y0 y1 y2 y3 y4 y5 y6))
 | 0 => ⟨fun _ _ _ _ r h => by simp [Z35.j0] at h, fun _ _ _ _ _ _ _ r h => by simp [Z35.l0] at h⟩
 | k + 1 => by
  obtain ⟨ih0, ih1⟩ := Z35.mono_l k
  refine ⟨?_, ?_⟩
  ·intro y0 y1 y2 y3
   unfold Z35.j0
   repeat' first|exact ih0 _ _ _ _|exact ih1 _ _ _ _ _ _ _|exact Z33.mono _ _ _|exact Z29.mono _ _ _|exact Z53.mono _ _ _ _|exact Z12.mono _ _|exact lo_|refine LeO.ite ?_ ?_|refine LeO.bind ?_ (fun _ => ?_)
  ·intro y0 y1 y2 y3 y4 y5 y6
   unfold Z35.l0
   repeat' first|exact ih0 _ _ _ _|exact ih1 _ _ _ _ _ _ _|exact Z33.mono _ _ _|exact Z29.mono _ _ _|exact Z53.mono _ _ _ _|exact Z12.mono _ _|exact lo_|refine LeO.ite ?_ ?_|refine LeO.bind ?_ (fun _ => ?_)
theorem Z35.mono : ∀ a0 a1 a2 k, LeO (Z35.f k a0 a1 a2) (Z35.f (k + 1) a0 a1 a2) := by
 intro a0 a1 a2 k
 obtain ⟨ih0, ih1⟩ := Z35.mono_l k
 unfold Z35.f
 repeat' first|exact ih0 _ _ _ _|exact ih1 _ _ _ _ _ _ _|exact Z33.mono _ _ _|exact Z29.mono _ _ _|exact Z53.mono _ _ _ _|exact Z12.mono _ _|exact lo_|refine LeO.ite ?_ ?_|refine LeO.bind ?_ (fun _ => ?_)
def Z35.T10 : Bool × List (List Nat × List Nat) := (true, [([], []), ([], []), ([1], [1]), ([], []), ([2, 3], [2, 3]), ([4], [4]), ([0, 5], [0, 5]), ([6, 6], [6]), ([7, 7, 0, 1, 2, 3, 4, 5, 6, 7], [7])])
def Z35.B10 : List Nat := [0, 0, 2, 0, 14, 30, 63, 127, 255]
theorem Z35.tab10 : rtab .any (opsOf Try.f103 10) = Z35.T10 := by kernel_rfl
theorem Z35.bits10 : waitsOk Z35.T10.2 Z35.B10 = true := by kernel_rfl
set_option maxHeartbeats 8000000 in
set_option maxRecDepth 100000 in
theorem Z35.calls (k : Nat) (A0_0 : Option Addr) (c0_0 : Nat) (l0_0 : List Int) (A0_1 : Option Addr) (c0_1 : Nat) (l0_1 : List Int) (a1 : Int) (r : Int) (w : World) (hr0_0 : Kd.C (Kd.int .i64) w A0_0 l0_0.length l0_0) (hc0_0 : l0_0.length ≤ c0_0) (hr0_1 : Kd.C (Kd.int .i64) w A0_1 l0_1.length l0_1) (hc0_1 : l0_1.length ≤ c0_1) (h : Z35.f k l0_0 l0_1 a1 = some r) :
  Calls Try.prog 103 #[.agg #[.slice A0_0 l0_0.length c0_0, .slice A0_1 l0_1.length c0_1], .int .i64 a1] w fun e w' => e = .returned (.int .i64 r) ∧ Below w.heap.size w w' := by
 have hu25 := Try.underlying25
 have HR0_0 := A_ hr0_0
 have HC0_0 := A_ hc0_0
 clear hr0_0 hc0_0
 have HR0_1 := A_ hr0_1
 have HC0_1 := A_ hc0_1
 clear hr0_1 hc0_1
 have HB := A_ (Below.refl w.heap.size w)
 have H := h
 unfold Z35.f at H
 clear h
 have HC3 := A_ H
 clear H
 go_enter Try.func103, Try.ntmps103
 go_upto_region 1 with (first | ((with_reducible refine gB_ (N := 2) rfl ?_); (try (refine gate_guard (by rfl) ?_; dsimp only)); refine bx_ 2 #[.slice A0_0 l0_0.length c0_0, .slice A0_1 l0_1.length c0_1] 25 ?_; intro gb511 hg w4 hbox hb; have BK511 := A_ hbox; have GW511 := gw_ w hg; have GE511 := GW511; replace HB := b1_ hb; clear hb hbox hg))
 (try simp only [Act.put, sA_, sB_, sC_])
 go_cut [21] (fun v21 wc => ∃ (kq : Nat) (x21_2 : Bool), v21 = .bool x21_2 ∧ Aside0 (Z35.j0 kq a1 x21_2 l0_0 l0_1 = some r) ∧ Aside0 (kq ≤ k) ∧ Aside0 (wc.heap[gb511]? = some (.cells #[(.slice A0_0 l0_0.length c0_0), (.slice A0_1 l0_1.length c0_1)] 25 (0, 0))) ∧ Aside0 (Below w.heap.size w wc))
 case first =>
  have H := HC3.out
  clear HC3
  obtain ⟨t512, A5, H⟩ := bi_ H
  by_cases c6 : t512 = true
  ·subst c6
   rw [if_pos rfl] at H
   by_cases c7 : a1 < 0
   ·rw [if_pos c7] at H
    have c7b0 := oC_ c7
    clear c7
    (first | rw [c7b0] | (simp only [i64_w, i32_w]; rw [c7b0]) | skip)
    have H' := A_ H
    clear H
    obtain ⟨hcz8_0, hcz8_1, hfz8_0, hfz8_1⟩ := c2_ BK511
    go_wp2_with (first | ((with_reducible refine gA_ (f := 66) rfl ?_); refine gL_ (some 9) Try.func66 #[.agg #[.slice A0_0 l0_0.length c0_0, .slice A0_1 l0_1.length c0_1]] rfl qa_ ?_; (with_reducible refine (Z29.calls k _ _ l0_0 _ _ l0_1 true _ (cb_ HR0_0) HC0_0.out (cb_ HR0_1) HC0_1.out A5.out).mono ?_); rintro e w9 ⟨rfl, hb⟩; refine ⟨_, rfl, ?_⟩; replace BK511 := bb_ BK511 hb; replace HB := b1_ hb; clear hb))
    go_meet
    case rel => exact ⟨_, (true), qc_, H', ⟨qd_⟩, ⟨(kk_ BK511)⟩, ⟨hB_⟩⟩
   ·rw [if_neg c7] at H
    have c7b0 := oD_ c7
    clear c7
    (first | rw [c7b0] | (simp only [i64_w, i32_w]; rw [c7b0]) | skip)
    have H' := A_ H
    clear H
    obtain ⟨hcz10_0, hcz10_1, hfz10_0, hfz10_1⟩ := c2_ BK511
    go_wp2_with (first | ((with_reducible refine gA_ (f := 66) rfl ?_); refine gL_ (some 9) Try.func66 #[.agg #[.slice A0_0 l0_0.length c0_0, .slice A0_1 l0_1.length c0_1]] rfl qa_ ?_; (with_reducible refine (Z29.calls k _ _ l0_0 _ _ l0_1 true _ (cb_ HR0_0) HC0_0.out (cb_ HR0_1) HC0_1.out A5.out).mono ?_); rintro e w11 ⟨rfl, hb⟩; refine ⟨_, rfl, ?_⟩; replace BK511 := bb_ BK511 hb; replace HB := b1_ hb; clear hb; obtain ⟨hcz12_0, hcz12_1, hfz12_0, hfz12_1⟩ := c2_ BK511))
    go_meet
    case rel => exact ⟨_, (decide (a1 ≥ (l0_0.length : Int))), qc_, H', ⟨qd_⟩, ⟨(kk_ BK511)⟩, ⟨hB_⟩⟩
  ·replace c6 := Bool.eq_false_iff.mpr c6
   subst c6
   have H1 : (Z35.j0 k a1 true l0_0 l0_1) = some r := by rw [if_neg (show ¬ (false = true) by decide)] at H; exact H
   clear H
   have H := H1
   clear H1
   have H' := A_ H
   clear H
   obtain ⟨hcz13_0, hcz13_1, hfz13_0, hfz13_1⟩ := c2_ BK511
   go_wp2_with (first | ((with_reducible refine gA_ (f := 66) rfl ?_); refine gL_ (some 9) Try.func66 #[.agg #[.slice A0_0 l0_0.length c0_0, .slice A0_1 l0_1.length c0_1]] rfl qa_ ?_; (with_reducible refine (Z29.calls k _ _ l0_0 _ _ l0_1 false _ (cb_ HR0_0) HC0_0.out (cb_ HR0_1) HC0_1.out A5.out).mono ?_); rintro e w14 ⟨rfl, hb⟩; refine ⟨_, rfl, ?_⟩; replace BK511 := bb_ BK511 hb; replace HB := b1_ hb; clear hb))
   go_meet
   case rel => exact ⟨_, (true), qc_, H', ⟨qd_⟩, ⟨(kk_ BK511)⟩, ⟨hB_⟩⟩
 case rest =>
  clear HC3
  obtain ⟨kq, x21_2, rfl, HA, HJ2, BK511, HB⟩ := hcut
  cases kq with
  | zero => exact absurd HA.out (by simp [Z35.j0])
  | succ kj2 =>
   have H := HA.out
   clear HA
   simp only [Z35.j0] at H
   by_cases c15 : x21_2 = true
   ·subst c15
    rw [if_pos rfl] at H
    obtain rfl := Option.some.inj H
    go_wp2
    go_ret
    exact ⟨qb_, hB_⟩
   ·replace c15 := Bool.eq_false_iff.mpr c15
    subst c15
    have H1 : ((Z33.f kj2 l0_0 l0_1).bind fun t513 => ((Z53.f kj2 l0_0 l0_1 a1).bind fun t516 => (Z35.l0 kj2 a1 t513 t516 (t516.length : Int) 0 l0_0 l0_1))) = some r := by rw [if_neg (show ¬ (false = true) by decide)] at H; exact H
    clear H
    have H := H1
    clear H1
    obtain ⟨t513, A16, H⟩ := bi_ H
    obtain ⟨t516, A17, H⟩ := bi_ H
    have H' := A_ H
    clear H
    obtain ⟨hcz18_0, hcz18_1, hfz18_0, hfz18_1⟩ := c2_ BK511
    go_wp2_with (first | ((with_reducible refine gA_ (f := 140) rfl ?_); refine gL_ (some 23) Try.func140 #[.agg #[.slice A0_0 l0_0.length c0_0, .slice A0_1 l0_1.length c0_1]] rfl qa_ ?_; (with_reducible refine (Z33.calls kj2 _ _ l0_0 _ _ l0_1 t513 _ (cb_ HR0_0) HC0_0.out (cb_ HR0_1) HC0_1.out A16.out).mono ?_); rintro e w19 ⟨v514, rfl, ho0, hb⟩; refine ⟨_, rfl, ?_⟩; have HO515 := rl_ w ho0; replace BK511 := bb_ BK511 hb; replace HB := b1_ hb; clear hb ho0; obtain ⟨hcz20_0, hcz20_1, hfz20_0, hfz20_1⟩ := c2_ BK511) | ((with_reducible refine gA_ (f := 141) rfl ?_); refine gL_ (some 26) Try.func141 #[.agg #[.slice A0_0 l0_0.length c0_0, .slice A0_1 l0_1.length c0_1], .int .i64 a1] rfl qa_ ?_; (with_reducible refine (Z53.calls kj2 _ _ l0_0 _ _ l0_1 a1 t516 _ (cb_ HR0_0) HC0_0.out (cb_ HR0_1) HC0_1.out A17.out).mono ?_); rintro e w21 ⟨v517, rfl, ho0, hb⟩; refine ⟨_, rfl, ?_⟩; have HO518 := A_ (rE_ (Kd.R_new' ho0 (Kd.R_lt (rr_ HO515))) (bF_ hB_)); replace HO515 := A_ (Kd.R_elder' (rr_ HO515) (Kd.R_base ho0) hb); replace BK511 := bb_ BK511 hb; replace HB := b1_ hb; clear hb ho0; obtain ⟨Ao22, co22, eo22⟩ := Kd.R_slice HO518.out; subst eo22))
    go_loopg [28] kj2 (fun kq v28 w' => ∃ (x28_2 : Int), v28 = .int .i64 x28_2 ∧ Aside0 (Z35.l0 kq a1 t513 t516 (t516.length : Int) x28_2 l0_0 l0_1 = some r) ∧ Aside0 (kq ≤ kj2) ∧ Aside0 (Kd.R (Kd.int .i64) 3 w' w.heap.size (fun k_ => some k_ ≠ ((.slice Ao22 t516.length co22) : Value).ownBlock) v514 t513) ∧ Aside0 (Kd.R (Kd.int .i64) 3 w' w.heap.size (fun k_ => some k_ ≠ (v514 : Value).ownBlock) (.slice Ao22 t516.length co22) t516) ∧ Aside0 (w'.heap[gb511]? = some (.cells #[(.slice A0_0 l0_0.length c0_0), (.slice A0_1 l0_1.length c0_1)] 25 (0, 0))) ∧ Aside0 (Below w.heap.size w w'))
    case atStart => exact ⟨(0), qc_, H', ⟨nA_ _⟩, ⟨(rw_ (Kd.R_mono HO515.out (fun _ hk => hk.2)))⟩, ⟨(rw_ (Kd.R_mono HO518.out (fun _ hk => hk.2)))⟩, ⟨(kk_ BK511)⟩, ⟨hB_⟩⟩
    case round =>
     clear H'
     obtain ⟨x28_2, rfl, HA, HK2, HO_5, HO_26, BK511, HB⟩ := hrel
     cases gk with
     | zero => exact absurd HA.out (by simp [Z35.l0])
     | succ k2 =>
      have H := HA.out
      clear HA
      simp only [Z35.l0] at H
      by_cases c23 : x28_2 < (t516.length : Int)
      ·rw [if_pos c23] at H
       have c23b0 := oC_ c23
       clear c23
       have c24 := cp_ H
       replace H := ca_ H
       have c24b0 := oC_ c24
       clear c24
       have c25 := cp_ H
       replace H := ca_ H
       have c25b0 := oC_ c25
       clear c25
       have c26 := cp_ H
       replace H := ca_ H
       have c26b0 := oC_ c26
       clear c26
       have c27 := cp_ H
       replace H := ca_ H
       have c27b0 := oC_ c27
       clear c27
       by_cases c28 : (rd t513 (rd t516 x28_2)) = (rd t516 x28_2)
       ·rw [if_pos c28] at H
        have c28b0 : ((rd t513 (rd t516 x28_2)) == (rd t516 x28_2)) = true := beq_iff_eq.mpr c28
        have c28b1 : ((rd t513 (rd t516 x28_2)) != (rd t516 x28_2)) = false := bne_eq_false_iff_eq.mpr c28
        clear c28
        have H' := A_ H
        clear H
        have p519 : 0 ≤ (x28_2 : Int) := oB_ qe_
        have q519 : x28_2 < (t516.length : Int) := oB_ qe_
        obtain ⟨ad519, e519, hx519_0⟩ := Kd.at_int (Kd.R_reads' HO_26.out).2.2 x28_2 p519 q519
        cases e519
        replace p519 := eq_true p519
        replace q519 := eq_true q519
        obtain ⟨Ao29, co29, eo29⟩ := Kd.R_slice HO_5.out
        subst eo29
        have p520 : 0 ≤ ((rd t516 x28_2) : Int) := oB_ qe_
        have q520 : (rd t516 x28_2) < (t513.length : Int) := oB_ qe_
        obtain ⟨ad520, e520, hx520_0⟩ := Kd.at_int (Kd.R_reads' HO_5.out).2.2 (rd t516 x28_2) p520 q520
        cases e520
        replace p520 := eq_true p520
        replace q520 := eq_true q520
        go_wp2
        go_roundg k2
        case measure => have := HJ2.out; have := HK2.out; omega
        case rel => exact ⟨(wrap64 (x28_2 + 1)), qc_, H', ⟨by have := HJ2.out; have := HK2.out; omega⟩, ⟨(rr_ HO_5)⟩, ⟨(rr_ HO_26)⟩, ⟨(kk_ BK511)⟩, ⟨hB_⟩⟩
       ·rw [if_neg c28] at H
        have c28b0 : ((rd t513 (rd t516 x28_2)) == (rd t516 x28_2)) = false := beq_eq_false_iff_ne.mpr c28
        have c28b1 : ((rd t513 (rd t516 x28_2)) != (rd t516 x28_2)) = true := bne_iff_ne.mpr c28
        obtain rfl := Option.some.inj H
        have p519 : 0 ≤ (x28_2 : Int) := oB_ qe_
        have q519 : x28_2 < (t516.length : Int) := oB_ qe_
        obtain ⟨ad519, e519, hx519_0⟩ := Kd.at_int (Kd.R_reads' HO_26.out).2.2 x28_2 p519 q519
        cases e519
        replace p519 := eq_true p519
        replace q519 := eq_true q519
        obtain ⟨Ao30, co30, eo30⟩ := Kd.R_slice HO_5.out
        subst eo30
        have p520 : 0 ≤ ((rd t516 x28_2) : Int) := oB_ qe_
        have q520 : (rd t516 x28_2) < (t513.length : Int) := oB_ qe_
        obtain ⟨ad520, e520, hx520_0⟩ := Kd.at_int (Kd.R_reads' HO_5.out).2.2 (rd t516 x28_2) p520 q520
        cases e520
        replace p520 := eq_true p520
        replace q520 := eq_true q520
        go_wp2
        go_ret
        exact ⟨qb_, hB_⟩
      ·rw [if_neg c23] at H
       have c23b0 := oD_ c23
       clear c23
       have c31 := cp_ H
       replace H := ca_ H
       have c31b0 := oC_ c31
       clear c31
       have c32 := cp_ H
       replace H := ca_ H
       have c32b0 := oC_ c32
       clear c32
       obtain ⟨t522, A33, H⟩ := bi_ H
       obtain ⟨t525, A34, H⟩ := bi_ H
       obtain rfl := Option.some.inj H
       try go_wp2
       replace HO_5 := A_ (rC_ HO_5.out)
       replace HO_26 := A_ (rC_ HO_26.out)
       replace BK511 := A_ (kB_ BK511.out)
       replace HB := A_ (bC_ HB.out)
       have p521 : 0 ≤ (a1 : Int) := oB_ qe_
       have q521 : a1 < (l0_1.length : Int) := oB_ qe_
       obtain ⟨ad521, e521, hx521_0⟩ := Kd.at_int HR0_1.out a1 p521 q521
       have hw521_0 := hx521_0
       cases e521
       replace hx521_0 := (HB.out.cell (World.block_lt_of_cell? w _ hx521_0)).trans hx521_0
       replace p521 := eq_true p521
       replace q521 := eq_true q521
       refine start_ (n := 9) (S := fun w' => w'.cell? ⟨gb511, 0, none⟩ = some (.slice A0_0 l0_0.length c0_0) ∧ w'.cell? ⟨gb511, 1, none⟩ = some (.slice (some ad521) l0_1.length c0_1) ∧ w'.cell? (ad521.add (a1).toNat) = some (.int .i64 (rd l0_1 a1))) (ds := []) (bl_ 9 0) (by kernel_rfl) rfl (by kernel_rfl) ⟨cz0_ BK511, cz1_ BK511, ((HB.out.cell (World.block_lt_of_cell? w _ hw521_0)).trans hw521_0)⟩ (fun hHeld => ?_); refine with_tabW Z35.tab10 Z35.bits10 (fun HT_ HW_ => ?_)
       generalize wr.drew = w35 at HO_5 HO_26 BK511 HB hx521_0 hHeld ⊢
       refine pu_ 1 (some 40) (bl_ 9 2) HT_ ?_
       refine pu_ 3 (some 42) (bl_ 9 10) HT_ ?_
       refine ta_ 0 (some 39) (bl_ 9 11) HT_ HW_ hHeld ?_
       refine ta_ 2 (some 41) (bl_ 9 15) HT_ HW_ hHeld ?_
       refine pu_ 4 (some 43) (bl_ 9 31) HT_ ?_
       refine ta_ 5 (some 44) (bl_ 9 63) HT_ HW_ hHeld ?_
       refine on_ 6 (some 45) (bl_ 9 127) HT_ (fun K hK => ?_)
       refine gO_ Try.func141 #[.agg #[.slice A0_0 l0_0.length c0_0, .slice (some ad521) l0_1.length c0_1], .int .i64 (rd l0_1 a1)] (by rfl) rfl rfl qa_ ?_
       with_reducible refine (Z53.calls k2 _ _ l0_0 _ _ l0_1 (rd l0_1 a1) t522 _ (cb_ HR0_0) HC0_0.out (cb_ HR0_1) HC0_1.out A33.out).mono ?_
       rintro e w36 ⟨v523, rfl, ho0, hb⟩
       refine ⟨_, rfl, ?_⟩
       have HO524 := A_ (rE_ (Kd.R_new' (Kd.R_new' ho0 (Kd.R_lt (rr_ HO_5))) (Kd.R_lt (rr_ HO_26))) (bF_ hB_))
       replace HO_5 := A_ (Kd.R_elder' (rr_ HO_5) (Kd.R_base ho0) hb)
       replace HO_26 := A_ (Kd.R_elder' (rr_ HO_26) (Kd.R_base ho0) hb)
       replace BK511 := bb_ BK511 hb
       replace HB := b1_ hb
       clear hb ho0
       obtain ⟨Ao37, co37, eo37⟩ := Kd.R_slice HO524.out
       (first | subst eo37 | (injection eo37 with f1_ f2_ f3_; have f4_ := f1_.symm; have f5_ := f3_.symm; clear f1_ f2_ f3_; subst f4_; subst f5_))
       refine hK.out _ _ ⟨cz0_ BK511, cz1_ BK511, ((HB.out.cell (World.block_lt_of_cell? w _ hw521_0)).trans hw521_0)⟩ (fun hHeld => ?_)
       clear hK K
       refine no_ (some 45) ?_
       refine on_ 7 (some 46) (bl_ 9 255) HT_ (fun K hK => ?_)
       refine gO_ Try.func142 #[.slice Ao37 t522.length co37] (by rfl) rfl rfl qa_ ?_
       with_reducible refine (Z12.calls k2 _ _ t522 t525 _ (cr_ HO524) ((Kd.R_reads' HO524.out).2.1) A34.out).mono ?_
       rintro e w' ⟨rfl, ⟨nd, rfl⟩⟩
       refine ⟨_, rfl, ?_⟩
       refine hK.out _ _ ⟨cz0_ BK511, cz1_ BK511, ((HB.out.cell (World.block_lt_of_cell? w _ hw521_0)).trans hw521_0)⟩ (fun hHeld => ?_)
       clear hK K
       refine no_ (some 46) ?_
       refine pu_ 8 (some 4) (bl_ 9 511) HT_ ?_
       refine done_ (done_of HT_.out (by kernel_rfl)) ?_
       try go_wp2
       go_ret
       exact ⟨qb_, hB_⟩
end Go.Proofs.Ytcggfjpnfodbaaa.A
end
section
namespace Go.Proofs.Ytcggfjpnfodbaaa.A
open Go.RowKit Go.Proofs.YtcggfjpnfodbaaaW.PrintWords Go.Proofs.YtcggfjpnfodbaaaW.PrintLast Go.Proofs.YtcggfjpnfodbaaaW.PrintMore
attribute [local go_sem] max2_int min2_int max_two min_two max_three min_three max_four min_four
set_option linter.unusedVariables false
set_option linter.unusedSimpArgs false
def idxF : List (List Int) → Int → Nat → Option Int
 | [], _, _ => some (-1)
 | r :: rs, x, i => if 0 < r.length then (if rd r 0 = x then some (i : Int) else idxF rs x (i + 1)) else none
def Z0.f (rows : List (List Int)) (x : Int) : Option Int := if rows.length < 4611686018427387904 then idxF rows x 0 else none
set_option maxHeartbeats 8000000 in
set_option maxRecDepth 100000 in
theorem Z0.closure (gx : Nat) (A1 : Option Addr) (c1 : Nat) (l1 : List Int) (x : Int) (b : Bool) (w : World) (hr1 : Kd.C (Kd.int .i64) w A1 l1.length l1) (hne : 0 < l1.length) (hx : w.heap[gx]? = some (.cells #[.int .i64 x] 3 (0, 0))) (hb : decide (rd l1 0 = x) = b) :
  Calls Try.prog 105 #[.slice A1 l1.length c1, .pointer (some ⟨gx, 0, none⟩)] w fun e w' => e = .returned (.bool b) ∧ Below w.heap.size w w' := by
 have p0 : (0 : Int) ≤ (0 : Int) := by omega
 have q0 : (0 : Int) < (l1.length : Int) := by omega
 obtain ⟨ad, e0, hx0⟩ := Kd.at_int hr1 0 p0 q0
 cases e0
 have qi : (0 < l1.length) = True := eq_true hne
 (try rw [show ((0 : Int)).toNat = 0 from rfl] at hx0)
 (try rw [Addr.add_zero'] at hx0)
 have hcx : w.cell? ⟨gx, 0, none⟩ = some (.int .i64 x) := (blk_cell hx 0).trans rfl
 have HR := A_ hr1
 have HX := A_ hx
 have HB := A_ (bC_ (Below.refl w.heap.size w))
 have hx0' : w.drew.cell? ad = some (.int .i64 (rd l1 0)) := hx0
 have hcx' : w.drew.cell? ⟨gx, 0, none⟩ = some (.int .i64 x) := hcx
 clear hr1 hx hx0 hcx
 subst hb
 go_enter Try.func105, Try.ntmps105
 go_wp2
 refine start_ (n := 6) (S := fun w' => w'.cell? ad = some (.int .i64 (rd l1 0)) ∧ w'.cell? ⟨gx, 0, none⟩ = some (.int .i64 x)) (ds := []) (bl_ 6 0) (by kernel_rfl) rfl (by kernel_rfl) ⟨hx0', hcx'⟩ (fun hHeld => ?_)
 generalize w.drew = w1 at HB hHeld hx0' hcx' ⊢
 refine pure_ (i := 0) (N := some 4) (v := ?_) (a' := ?_) (bl_ 6 1) rfl rfl (by kernel_rfl) (fun _ _ _ h => h) (Or.inl ⟨by rfl, ?_⟩) ?_ ?_
 rotate_left
 ·intro w'
  go_simp
  with_reducible rfl
 rotate_left
 ·simp only [Act.put, sA_, sB_, sC_, i64_w, i32_w]
  rfl
 refine pure_ (i := 1) (N := some 5) (v := ?_) (a' := ?_) (bl_ 6 3) rfl rfl (by kernel_rfl) (fun _ _ _ h => h) (Or.inl ⟨by rfl, ?_⟩) ?_ ?_
 rotate_left
 ·intro w'
  go_simp
  with_reducible rfl
 rotate_left
 ·simp only [Act.put, sA_, sB_, sC_, i64_w, i32_w]
  rfl
 refine take_ (i := 2) (N := some 6) (v := ?_) (a' := ?_) (bl_ 6 7) rfl rfl (by kernel_rfl) (fun _ _ _ h => h) (Or.inl ⟨by rfl, ?_⟩) hHeld ?_ ?_
 rotate_left
 ·rintro w' ⟨s0, s1⟩
  go_simp
  with_reducible rfl
 rotate_left
 ·simp only [Act.put, sA_, sB_, sC_, i64_w, i32_w]
  rfl
 refine take_ (i := 3) (N := some 7) (v := ?_) (a' := ?_) (bl_ 6 15) rfl rfl (by kernel_rfl) (fun _ _ _ h => h) (Or.inl ⟨by rfl, ?_⟩) hHeld ?_ ?_
 rotate_left
 ·rintro w' ⟨s0, s1⟩
  go_simp
  with_reducible rfl
 rotate_left
 ·simp only [Act.put, sA_, sB_, sC_, i64_w, i32_w]
  rfl
 refine pure_ (i := 4) (N := some 8) (v := ?_) (a' := ?_) (bl_ 6 31) rfl rfl (by kernel_rfl) (fun _ _ _ h => h) (Or.inl ⟨by rfl, ?_⟩) ?_ ?_
 rotate_left
 ·intro w'
  go_simp
  with_reducible rfl
 rotate_left
 ·simp only [Act.put, sA_, sB_, sC_, i64_w, i32_w]
  rfl
 refine pure_ (i := 5) (N := some 3) (v := ?_) (a' := ?_) (bl_ 6 63) rfl rfl (by kernel_rfl) (fun _ _ _ h => h) (Or.inl ⟨by rfl, ?_⟩) ?_ ?_
 rotate_left
 ·intro w'
  go_simp
  with_reducible rfl
 rotate_left
 ·simp only [Act.put, sA_, sB_, sC_, i64_w, i32_w]
  rfl
 refine done_ (by kernel_rfl) ?_
 try go_wp2
 go_ret
 exact ⟨rfl, HB.out⟩
set_option maxHeartbeats 8000000 in
set_option maxRecDepth 100000 in
theorem Z0.main (gf : Nat) (lb : Array Value) (eg : ∀ args w, (callFunc gf args).run Try.prog w = .ok (.enter gf args) w) (gx : Nat) (A0 : Option Addr) (c0 : Nat) (l0 : List (List Int)) (x r : Int) (w : World) (hr0 : Kd.C (Kd.slice 3 (Kd.int .i64)) w A0 l0.length l0) (hc0 : l0.length ≤ c0) (hx : w.heap[gx]? = some (.cells #[.int .i64 x] 3 (0, 0))) (h : Z0.f l0 x = some r)
  (hcl : ∀ (A1 : Option Addr) (c1 : Nat) (l1 : List Int) (b : Bool) (w1 : World), Kd.C (Kd.int .i64) w1 A1 l1.length l1 → 0 < l1.length → w1.heap[gx]? = some (.cells #[.int .i64 x] 3 (0, 0)) → decide (rd l1 0 = x) = b → Calls Try.prog gf (#[.slice A1 l1.length c1] ++ lb) w1 fun e w' => e = .returned (.bool b) ∧ Below w1.heap.size w1 w') :
  Calls Try.prog 104 #[.slice A0 l0.length c0, .func (.func gf) #[] lb] w fun e w' => e = .returned (.int .i64 r) ∧ Below w.heap.size w w' := by
 have HR0 := A_ hr0
 have HC0 := A_ hc0
 have HX := A_ hx
 have HB := A_ (Below.refl w.heap.size w)
 have hsm : l0.length < 4611686018427387904 := by
  unfold Z0.f at h
  split at h
  ·assumption
  ·cases h
 have H' : Aside0 (idxF (l0.drop 0) x 0 = some r) := ⟨by
  unfold Z0.f at h
  rw [if_pos hsm] at h
  exact h⟩
 clear hr0 hc0 hx h
 replace hcl := A_ hcl
 go_enter Try.func104, Try.ntmps104
 go_wp2
 go_loopg [5, 8] l0.length (fun gg _ s8 wr => ∃ kk : Nat, s8 = .int .i64 kk ∧ Aside0 (kk ≤ l0.length) ∧ Aside0 (l0.length - kk ≤ gg) ∧ Aside0 (idxF (l0.drop kk) x kk = some r) ∧ Aside0 (Below w.heap.size w wr))
 case atStart => exact ⟨0, rfl, ⟨Nat.zero_le _⟩, ⟨by omega⟩, H', ⟨hB_⟩⟩
 case round =>
  clear H' HB
  obtain ⟨kk, rfl, HK, HG, HA, HB⟩ := hrel
  by_cases hlt : kk < l0.length
  ·have hltz : (kk : Int) < (l0.length : Int) := by omega
   have h0z : (0 : Int) ≤ (kk : Int) := Int.natCast_nonneg kk
   have H := HA.out
   have hdr : l0.drop kk = rd_L2 l0 (kk : Int) :: l0.drop (kk + 1) := by
    rw [List.drop_eq_getElem_cons hlt]
    congr 1
    simp [rd_L2, hlt]
   rw [hdr] at H
   simp only [idxF] at H
   obtain ⟨ad1, A1, c1, e1, hx1, hl1, hi1⟩ := at_L2 (cD_ HR0.out HB.out) (kk : Int) h0z hltz
   cases e1
   rw [show ((kk : Int)).toNat = kk from rfl] at hx1
   have HI := A_ hi1
   have HX1 := A_ (kE_ HX.out HB.out)
   clear hi1
   by_cases hne : 0 < (rd_L2 l0 (kk : Int)).length
   ·rw [if_pos hne] at H
    by_cases hq : rd (rd_L2 l0 (kk : Int)) 0 = x
    ·rw [if_pos hq] at H
     obtain rfl := Option.some.inj H
     have hd : decide (rd (rd_L2 l0 (kk : Int)) 0 = x) = true := oC_ hq
     clear H
     go_wp2_with (fail)
     refine (hcl.out _ _ (rd_L2 l0 (kk : Int)) true wr HI.out hne HX1.out hd).mono ?_
     rintro e w2 ⟨rfl, hb⟩
     have HB2 := A_ (bE_ HB.out hb)
     clear hb
     go_wp2
     go_ret
     exact ⟨rfl, by repeat (first | (with_reducible first | exact HB2.out | apply bA_ | apply bB_ | apply bC_) | exact HB2.out)⟩
    ·rw [if_neg hq] at H
     have H2 := A_ H
     clear H
     have hd : decide (rd (rd_L2 l0 (kk : Int)) 0 = x) = false := oD_ hq
     go_wp2_with (fail)
     refine (hcl.out _ _ (rd_L2 l0 (kk : Int)) false wr HI.out hne HX1.out hd).mono ?_
     rintro e w2 ⟨rfl, hb⟩
     have HB2 := A_ (bE_ HB.out hb)
     clear hb
     go_wp2
     go_roundg (l0.length - (kk + 1))
     case measure => have := HG.out; omega
     case rel => exact ⟨kk + 1, by congr 1, ⟨by omega⟩, ⟨by omega⟩, H2, ⟨by repeat (first | (with_reducible first | exact HB2.out | apply bA_ | apply bB_ | apply bC_) | exact HB2.out)⟩⟩
   ·rw [if_neg hne] at H
    cases H
  ·have hltz : ¬ (kk : Int) < (l0.length : Int) := by omega
   have H := HA.out
   rw [List.drop_eq_nil_of_le (by omega)] at H
   simp only [idxF] at H
   obtain rfl := Option.some.inj H
   clear H
   go_wp2
   go_ret
   exact ⟨rfl, hB_⟩
theorem Z0.calls (gx : Nat) (A0 : Option Addr) (c0 : Nat) (l0 : List (List Int)) (x r : Int) (w : World) (hr0 : Kd.C (Kd.slice 3 (Kd.int .i64)) w A0 l0.length l0) (hc0 : l0.length ≤ c0) (hx : w.heap[gx]? = some (.cells #[.int .i64 x] 3 (0, 0))) (h : Z0.f l0 x = some r) :
  Calls Try.prog 104 #[.slice A0 l0.length c0, .func (.func 105) #[] #[.pointer (some ⟨gx, 0, none⟩)]] w fun e w' => e = .returned (.int .i64 r) ∧ Below w.heap.size w w' :=
 Z0.main 105 #[.pointer (some ⟨gx, 0, none⟩)] (fun args w => enters_ Try.func105 (by kernel_rfl) rfl args w) gx A0 c0 l0 x r w hr0 hc0 hx h (fun A1 c1 l1 b w1 h1 h2 h3 h4 => Z0.closure gx A1 c1 l1 x b w1 h1 h2 h3 h4)
end Go.Proofs.Ytcggfjpnfodbaaa.A
end
