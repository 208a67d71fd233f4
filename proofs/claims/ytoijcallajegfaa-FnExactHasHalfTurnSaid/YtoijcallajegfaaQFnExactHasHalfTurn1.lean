/- Lemmas for the row FnExactHasHalfTurn: the program's functions told as plain functions, and plain mathematics. No conditions. -/
import Derived.ArgAppend
import Derived.Below
import Derived.BigQuiet
import Derived.Deep.AppendLies
import Derived.Deep.CutBlock
import Derived.Deep.DeepCutAuto
import Derived.Deep.Draws
import Derived.Deep.LoopGhost
import Derived.Deep.OwnRows
import Derived.Deep.QuietTactic
import Derived.Deep.RegionHeld3
import Derived.KernelRfl
import Derived.Laws.BitsLemmas
import Derived.Laws.BytesArg
import Derived.Laws.IdiomCopy
import Derived.Laws.MakeOwn
import Derived.Laws.OwnMore
import Derived.Laws.Rows
import Derived.Laws.Slices
import Derived.Laws.Tables
import Derived.Lib.AppendStr
import Derived.Lib.Bytealg
import Derived.Lib.ConvBytes
import Derived.Lib.Walk
import Derived.Maps.AppendAt
import Derived.OrdersHeld
import Derived.OwnWalk
import Derived.RowKit
import Derived.RowKit3
import Derived.Tactics
import Derived.Test.YtoijcallajegfaaProg
import Derived.WalkKit
import Derived.WideLaws
import Derived.Test.YtoijcallajegfaaQFnExactHasHalfTurn0
section
namespace Go.Proofs.Ytoijcallajegfaa.A
open Go.RowKit Go.Proofs.YtoijcallajegfaaW.PrintWords Go.Proofs.YtoijcallajegfaaW.PrintLast Go.Proofs.YtoijcallajegfaaW.PrintMore
attribute [local go_sem] max2_int min2_int max_two min_two max_three min_three max_four min_four
set_option linter.unusedVariables false
set_option linter.unusedSimpArgs false
def errW : Option Int → Value
  | none => .nilIface
  | some c => .iface 0 (.int .i64 c)
theorem errW_none : errW none = .nilIface := rfl
theorem errW_some (c : Int) : errW (some c) = .iface 0 (.int .i64 c) := rfl
theorem info3 : (Try.prog.info? 3).map (fun i => (i.zero, i.size, i.bytes)) = some (some (.int .i64 0), 1, 8) := by kernel_rfl
theorem info4 : (Try.prog.info? 4).map (fun i => (i.zero, i.size, i.bytes)) = some (some (.bool false), 1, 1) := by kernel_rfl
theorem info33 : (Try.prog.info? 33).map (fun i => (i.zero, i.size, i.bytes)) = some (some (.agg #[(.slice none 0 0), (.slice none 0 0)]), 2, 48) := by kernel_rfl
structure S102 where
  f0 : (List Int)
  f1 : Int
  f2 : Int
structure S33 where
  f0 : (List Int)
  f1 : (List Int)
def z33 : S33 := ⟨([] : List Int), ([] : List Int)⟩
def k33 : Kd S33 := Kd.iso (Kd.pair (Kd.slice 3 (Kd.int .i64)) (Kd.slice 3 (Kd.int .i64))) (fun x : S33 => (x.f0, x.f1))
theorem k33_open {w : World} {x : S33} {cs : List Value} (h : k33.K w x cs) : ∃ A0 c0 A1 c1, cs = [.slice A0 x.f0.length c0, .slice A1 x.f1.length c1] ∧ x.f0.length ≤ c0 ∧ (Kd.int .i64).C w A0 x.f0.length x.f0 ∧ x.f1.length ≤ c1 ∧ (Kd.int .i64).C w A1 x.f1.length x.f1 := by
  obtain ⟨_, _, rfl, ⟨A0, c0, rfl, l0, g0⟩, ⟨A1, c1, rfl, l1, g1⟩⟩ := h
  exact ⟨A0, c0, A1, c1, rfl, l0, g0, l1, g1⟩
theorem k33_mkM (w : World) (base : Nat) (ok : Nat → Prop) (x : S33) {v0 : Value} (g0 : (Kd.int .i64).R 3 w base ok v0 x.f0) {v1 : Value} (g1 : (Kd.int .i64).R 3 w base ok v1 x.f1) : k33.M w base ok x [v0, v1] := ⟨[v0], [v1], rfl, ⟨v0, rfl, g0⟩, ⟨v1, rfl, g1⟩⟩
theorem k33_openF {W : World} {ok : Nat → Prop} {x : S33} {cs : List Value} (h : Kd.FK k33 W ok x cs) : ∃ A0 c0 A1 c1, cs = [.slice A0 x.f0.length c0, .slice A1 x.f1.length c1] ∧ x.f0.length ≤ c0 ∧ Kd.F (Kd.int .i64) W ok A0 x.f0.length x.f0 ∧ x.f1.length ≤ c1 ∧ Kd.F (Kd.int .i64) W ok A1 x.f1.length x.f1 := by
  obtain ⟨A0, c0, A1, c1, rfl, l0, _, l1, _⟩ := k33_open (Kd.FK_now h)
  exact ⟨A0, c0, A1, c1, rfl, l0, (fun W' hW => by obtain ⟨A0_, c0_, A1_, c1_, he, l0_, g0_, l1_, g1_⟩ := k33_open (h W' hW); injection (Option.some.inj (show some (Value.slice A0 x.f0.length c0) = some (Value.slice A0_ x.f0.length c0_) from congrArg (fun l => l[0]?) he)) with ha_ _ _; rw [ha_]; exact g0_), l1, (fun W' hW => by obtain ⟨A0_, c0_, A1_, c1_, he, l0_, g0_, l1_, g1_⟩ := k33_open (h W' hW); injection (Option.some.inj (show some (Value.slice A1 x.f1.length c1) = some (Value.slice A1_ x.f1.length c1_) from congrArg (fun l => l[1]?) he)) with ha_ _ _; rw [ha_]; exact g1_)⟩
def rd_T33 (xs : List S33) (i : Int) : S33 := xs.getD i.toNat z33
theorem at_T33 {w : World} {A : Option Addr} {n : Nat} {xs : List S33} (h : Kd.C k33 w A n xs) (i : Int) (h0 : 0 ≤ i) (h1 : i < n) : ∃ ad A0 c0 A1 c1, A = some ad ∧ w.cell? (ad.add (i.toNat * 2)) = some (.slice A0 (rd_T33 xs i).f0.length c0) ∧ w.cell? ⟨(ad.add (i.toNat * 2)).block, (ad.add (i.toNat * 2)).off + 1, none⟩ = some (.slice A1 (rd_T33 xs i).f1.length c1) ∧ (rd_T33 xs i).f0.length ≤ c0 ∧ (Kd.int .i64).C w A0 (rd_T33 xs i).f0.length (rd_T33 xs i).f0 ∧ (rd_T33 xs i).f1.length ≤ c1 ∧ (Kd.int .i64).C w A1 (rd_T33 xs i).f1.length (rd_T33 xs i).f1 := by
  obtain ⟨ad, c, e, _, hK, hc0⟩ := Kd.C_get h z33 i h0 h1
  have hc : ∀ j u, c[j]? = some u → w.cell? (ad.add (i.toNat * 2 + j)) = some u := hc0
  obtain ⟨A0, c0, A1, c1, rfl, l0, g0, l1, g1⟩ := k33_open hK
  exact ⟨ad, A0, c0, A1, c1, e, hc 0 _ rfl, by rw [← add_field _ _ 1 (by omega)]; exact hc 1 _ rfl, l0, g0, l1, g1⟩
structure S118 where
  f0 : Int
  f1 : Int
end Go.Proofs.Ytoijcallajegfaa.A
end
section
/- Short words for printed texts. No conditions. -/
namespace Go.Proofs.Ytoijcallajegfaa.A
open Go.RowKit Go.Proofs.YtoijcallajegfaaW.PrintWords Go.Proofs.YtoijcallajegfaaW.PrintLast Go.Proofs.YtoijcallajegfaaW.PrintMore
set_option linter.unusedVariables false
theorem qa_ {p : Prop} (h : p := by (try simp only [List.map_toArray, List.map_cons, List.map_nil]); first | done | rfl | (simp only [List.length_drop, List.length_take]; rfl)) : p := h
theorem qb_ {p : Prop} (h : p := by first | rfl | (simp [errW_none, errW_some] <;> rfl) | (simp [*, errW_none, errW_some] <;> rfl)) : p := h
theorem qc_ {p : Prop} (h : p := by first | rfl | (simp; done) | (simp [*]; done)) : p := h
theorem qd_ {p : Prop} (h : p := by first | omega | exact Nat.le_refl _) : p := h
theorem qe_ {p : Prop} (h : p := by first | (with_reducible assumption) | assumption) : p := h
theorem hB_ {p : Prop} (h : p := by repeat (first | (with_reducible first | exact HB.out | apply below_alloc | apply pw_below_drewN | apply below_drew1 | refine below_set ?_ (Aside0.out (by assumption))) | exact HB.out)) : p := h
theorem kk_ {w W : World} {g : Nat} {o : Obj} (a : Aside0 (w.heap[g]? = some o)) (hw : Below w.heap.size w W := by repeat (first | (with_reducible first | exact Below.refl _ _ | apply below_alloc | apply pw_below_drewN | apply below_drew1) | exact Below.refl _ _)) : W.heap[g]? = some o := blk_below a.out hw
theorem bb_ {w W w1 : World} {g : Nat} {o : Obj} (a : Aside0 (w.heap[g]? = some o)) (hb : Below W.heap.size W w1) (hw : Below w.heap.size w W := by repeat (first | (with_reducible first | exact Below.refl _ _ | apply below_alloc | apply pw_below_drewN | apply below_drew1) | exact Below.refl _ _)) : Aside0 (w1.heap[g]? = some o) := ⟨blk_below (blk_below a.out hw) hb⟩
section
variable {α : Type} {d : Kd α} {e n c : Nat} {b : Nat} {ok : Nat → Prop} {v : Value} {xs : List α} {A : Option Addr} {w W w1 : World}
theorem rr_ (a : Aside0 (d.R e w b ok v xs)) (hw : Below w.heap.size w W := by repeat (first | (with_reducible first | exact Below.refl _ _ | apply below_alloc | apply pw_below_drewN | apply below_drew1) | exact Below.refl _ _)) : d.R e W b ok v xs := Kd.R_below a.out hw
theorem rw_ (a : d.R e w b ok v xs) (hw : Below w.heap.size w W := by repeat (first | (with_reducible first | exact Below.refl _ _ | apply below_alloc | apply pw_below_drewN | apply below_drew1) | exact Below.refl _ _)) : d.R e W b ok v xs := Kd.R_below a hw
theorem rb_ (a : Aside0 (d.R e w b ok v xs)) (hb : Below W.heap.size W w1) (hw : Below w.heap.size w W := by repeat (first | (with_reducible first | exact Below.refl _ _ | apply below_alloc | apply pw_below_drewN | apply below_drew1) | exact Below.refl _ _)) : Aside0 (d.R e w1 b ok v xs) := ⟨Kd.R_below (Kd.R_below a.out hw) hb⟩
theorem ss_ (a : Aside0 (Kd.S d e w b ok v xs)) (hw : Below w.heap.size w W := by repeat (first | (with_reducible first | exact Below.refl _ _ | apply below_alloc | apply pw_below_drewN | apply below_drew1) | exact Below.refl _ _)) : Kd.S d e W b ok v xs := Kd.S_below a.out hw
theorem sw_ (a : Kd.S d e w b ok v xs) (hw : Below w.heap.size w W := by repeat (first | (with_reducible first | exact Below.refl _ _ | apply below_alloc | apply pw_below_drewN | apply below_drew1) | exact Below.refl _ _)) : Kd.S d e W b ok v xs := Kd.S_below a hw
theorem sb_ (a : Aside0 (Kd.S d e w b ok v xs)) (hb : Below W.heap.size W w1) (hw : Below w.heap.size w W := by repeat (first | (with_reducible first | exact Below.refl _ _ | apply below_alloc | apply pw_below_drewN | apply below_drew1) | exact Below.refl _ _)) : Aside0 (Kd.S d e w1 b ok v xs) := ⟨Kd.S_below (Kd.S_below a.out hw) hb⟩
theorem cb_ (a : Aside0 (d.C w A n xs)) (hw : Below w.heap.size w W := by repeat (first | (with_reducible first | exact HB.out | apply below_alloc | apply pw_below_drewN | apply below_drew1 | refine below_set ?_ (Aside0.out (by assumption))) | exact HB.out)) : d.C W A n xs := Kd.C_below a.out hw
theorem cc_ (a : Aside0 (d.C w A n xs)) (hw : Below w.heap.size w W := by repeat (first | (with_reducible first | exact Below.refl _ _ | apply below_alloc | apply pw_below_drewN | apply below_drew1) | exact Below.refl _ _)) : d.C W A n xs := Kd.C_below a.out hw
theorem cw_ (a : d.C w A n xs) (hw : Below w.heap.size w W := by repeat (first | (with_reducible first | exact Below.refl _ _ | apply below_alloc | apply pw_below_drewN | apply below_drew1) | exact Below.refl _ _)) : d.C W A n xs := Kd.C_below a hw
theorem cr_ (a : Aside0 (d.R e w b ok (.slice A n c) xs)) (hw : Below w.heap.size w W := by repeat (first | (with_reducible first | exact Below.refl _ _ | apply below_alloc | apply pw_below_drewN | apply below_drew1) | exact Below.refl _ _)) : d.C W A xs.length xs := Kd.C_below (Kd.R_reads' a.out).2.2 hw
end
theorem b1_ {w W w1 : World} (hb : Below W.heap.size W w1) (h : Below w.heap.size w W := by repeat (first | (with_reducible first | exact HB.out | apply below_alloc | apply pw_below_drewN | apply below_drew1 | refine below_set ?_ (Aside0.out (by assumption))) | exact HB.out)) : Aside0 (Below w.heap.size w w1) := ⟨below_step h hb⟩
theorem gx_ {n m k : Nat} (hg : k = m) (h : n ≤ m) : n ≤ k := hg ▸ h
theorem gn_ {n m k : Nat} (hg : k = m) (h : n < m) : n ≠ k := hg ▸ Nat.ne_of_lt h
theorem gp_ {n m k : Nat} (hg : k = m) (h : n < m) : k ≠ n := hg ▸ Nat.ne_of_gt h
theorem cz0_ {w : World} {g : Nat} {t : TypeId} {l : List Value} {v0 : Value} (h : Aside0 (w.heap[g]? = some (.cells (List.toArray (v0 :: l)) t (0, 0)))) : w.cell? ⟨g, 0, none⟩ = some v0 := (blk_cell h.out 0).trans rfl
theorem cz1_ {w : World} {g : Nat} {t : TypeId} {l : List Value} {v0 v1 : Value} (h : Aside0 (w.heap[g]? = some (.cells (List.toArray (v0 :: v1 :: l)) t (0, 0)))) : w.cell? ⟨g, 1, none⟩ = some v1 := (blk_cell h.out 1).trans rfl
theorem c2_ {w : World} {g : Nat} {t : TypeId} {v0 v1 : Value} (h : Aside0 (w.heap[g]? = some (.cells (List.toArray [v0, v1]) t (0, 0)))) : w.cell? ⟨g, 0, none⟩ = some v0 ∧ w.cell? ⟨g, 1, none⟩ = some v1 ∧ w.frozen? ⟨g, 0, none⟩ = false ∧ w.frozen? ⟨g, 1, none⟩ = false := ⟨cz0_ h, cz1_ h, blk_frozen h.out 0, blk_frozen h.out 1⟩
theorem gw_ (w : World) {W : World} {g : Nat} (hg : g = W.heap.size) (h : Below w.heap.size w W := by repeat (first | (with_reducible first | exact HB.out | apply below_alloc | apply pw_below_drewN | apply below_drew1 | refine below_set ?_ (Aside0.out (by assumption))) | exact HB.out)) : Aside0 (w.heap.size ≤ g) := ⟨gx_ hg (below_size h)⟩
theorem gN_ {w W : World} {g k : Nat} {o : Obj} (a : Aside0 (w.heap[g]? = some o)) (hg : k = W.heap.size) (hw : Below w.heap.size w W := by repeat (first | (with_reducible first | exact Below.refl _ _ | apply below_alloc | apply pw_below_drewN | apply below_drew1) | exact Below.refl _ _)) : Aside0 (g ≠ k) := ⟨gn_ hg (blk_lt (blk_below a.out hw))⟩
theorem gP_ {w W : World} {g k : Nat} {o : Obj} (a : Aside0 (w.heap[g]? = some o)) (hg : k = W.heap.size) (hw : Below w.heap.size w W := by repeat (first | (with_reducible first | exact Below.refl _ _ | apply below_alloc | apply pw_below_drewN | apply below_drew1) | exact Below.refl _ _)) : Aside0 (k ≠ g) := ⟨gp_ hg (blk_lt (blk_below a.out hw))⟩
theorem rl_ {α : Type} {d : Kd α} {e : Nat} {ok : Nat → Prop} {v : Value} {xs : List α} (w : World) {W w1 : World} (a : d.R e w1 W.heap.size ok v xs) (h : Below w.heap.size w W := by repeat (first | (with_reducible first | exact HB.out | apply below_alloc | apply pw_below_drewN | apply below_drew1 | refine below_set ?_ (Aside0.out (by assumption))) | exact HB.out)) : Aside0 (d.R e w1 w.heap.size ok v xs) := ⟨Kd.R_lower a (below_size h)⟩
theorem cp_ {α : Type} {c : Prop} [Decidable c] {a : Option α} {r : α} (H : (if c then a else none) = some r) : c := Classical.byContradiction fun h => by rw [if_neg h] at H; cases H
theorem ca_ {α : Type} {c : Prop} [Decidable c] {a : Option α} {r : α} (H : (if c then a else none) = some r) : a = some r := by rw [if_pos (cp_ H)] at H; exact H
theorem bi_ {α β : Type} {x : Option α} {f : α → Option β} {r : β} (H : x.bind f = some r) : ∃ a, Aside0 (x = some a) ∧ f a = some r := by obtain ⟨a, h, k⟩ := Option.bind_eq_some_iff.mp H; exact ⟨a, ⟨h⟩, k⟩
theorem qp_ {p : Prop} (h : p := by (with_reducible repeat (first | refine blk_drewN ?_ _ | refine blk_drew ?_ | refine blk_alloc ?_ _)); apply blk_put; (with_reducible repeat (first | refine blk_drewN ?_ _ | refine blk_drew ?_ | refine blk_alloc ?_ _)); apply blk_put; (with_reducible repeat (first | refine blk_drewN ?_ _ | refine blk_drew ?_ | refine blk_alloc ?_ _)); exact Aside0.out (by assumption); all_goals rfl) : p := h
theorem fa_ {α : Type} {d : Kd α} {e b g t : Nat} {ok : Nat → Prop} {v u0 u1 : Value} {xs : List α} {w : World} {cs : Array Value} (a : Aside0 (d.R e w b ok v xs)) (h : Aside0 (w.heap[g]? = some (.cells cs t (0, 0)))) (ht : ∀ q, q ∈ e :: d.E → q ≠ t := by decide) : d.R e ((w.setCell ⟨g, 0, none⟩ u0).setCell ⟨g, 1, none⟩ u1) b ok v xs := Kd.R_mono (Kd.R_far (p := ⟨g, 1, none⟩) (Kd.R_far (p := ⟨g, 0, none⟩) (Kd.R_types a.out h.out ht) (fun _ hk => hk.2) u0) (fun _ hk => hk.2) u1) (fun _ hk => hk.1)
def bl_ (n m : Nat) : Array Bool := ((List.range n).map fun i => m.testBit i).toArray
theorem lo_ {α : Type} {a b : Option α} (h : LeO a b := by first | exact LeO.refl _ | exact LeO.none _) : LeO a b := h
section
variable {P : Program} {ops : Array Oper} {rest : List Oper} {o : Oper} {a : Act} {Q : Exit → Act → World → Prop} {S : World → Prop} {ds : List Nat} {md : Region.Mode} {T : Bool × List (List Nat × List Nat)} {B : List Nat}
theorem bx_ {W : World} (N : Tmp) (cs : Array Value) (t : TypeId) (h : ∀ g, g = W.heap.size → ∀ w1, w1.heap[g]? = some (.cells cs t (0, 0)) → Below W.heap.size W w1 → wpList P ops Q rest (a.put o.dst (.pointer (some ⟨g, 0, none⟩))) w1) (hgd : o.guard = none := by rfl) (hd : o.dst = some N := by rfl) (hrun : (execOp a.eval o).run P W = .ok (.value (.pointer (some ⟨W.heap.size, 0, none⟩))) (W.alloc (.cells cs t (0, 0))) := by first | (go_simp; done) | (go_simp; rfl)) : wpList P ops Q (o :: rest) a W := box_event hgd hd hrun h
theorem gL_ {w : World} (N : Option Tmp) {f : FuncId} {fn : Func} {az : Array Operand} {ts : Array TypeId} (hf : P.funcs[f]? = some fn) (args : Array Value) (hop : o.op = .call { callee := .value (.func f), args := az, argTypes := ts }) (hargs : az.map a.eval = args) (h : Calls P f args w fun e w' => ∃ v, e = .returned v ∧ wpList P ops Q rest (a.put N v) w') (hd : o.dst = N := by rfl) (hg : o.guard = none := by rfl) (hname : (fn.name == "runtime.NumGoroutine") = false := by kernel_rfl) (hb : fn.body.isSome = true := by rfl) : wpList P ops Q (o :: rest) a w := goesL_ N hd hg hf hname hb args hop hargs h
theorem gO_ {N : Option Tmp} {w : World} {K : Act → World → Prop} {f : FuncId} {fn : Func} {az : Array Operand} {ts : Array TypeId} (hf : P.funcs[f]? = some fn) (args : Array Value) (hw : Region.wanted o (yielded ops a.tmps) = true) (hN : o.dst = N) (hop : o.op = .call { callee := .value (.func f), args := az, argTypes := ts }) (hargs : az.map a.eval = args) (h : Calls P f args w fun e w' => ∃ v, e = .returned v ∧ K (a.put N v) w') (hname : (fn.name == "runtime.NumGoroutine") = false := by kernel_rfl) (hb : fn.body.isSome = true := by rfl) : if Region.wanted o (yielded ops a.tmps) = true then Oper.wp P o a w K Q else K (a.put N undef) w := goes_ hf hname hb args hw hN hop hargs h
theorem goesF_ {N : Option Tmp} {w : World} {K : Act → World → Prop} {f : FuncId} {fn : Func} {c : Operand} {az : Array Operand} {ts : Array TypeId} (hf : P.funcs[f]? = some fn) (hname : (fn.name == "runtime.NumGoroutine") = false) (hb : fn.body.isSome = true) (args : Array Value) (hw : Region.wanted o (yielded ops a.tmps) = true) (hN : o.dst = N) (hop : o.op = .call { callee := .value c, args := az, argTypes := ts }) (hargs : az.map a.eval = args) (h : Calls P f args w fun e w' => ∃ v, e = .returned v ∧ K (a.put N v) w') (hc : a.eval c = .func (.func f) #[] #[] := by rfl) : if Region.wanted o (yielded ops a.tmps) = true then Oper.wp P o a w K Q else K (a.put N undef) w := by
  refine call_ f args hw hN ?_ h
  have he := enters_ hf hname hb args w
  unfold execOp
  simp [hop, resolve, Deferred.ofValue, invoke, hargs, he, hc]
theorem pu_ (i : Nat) (N : Option Tmp) {v : Value} {fuel : Nat} {l : Array Bool} {w : World} (l' : Array Bool) (hT : Aside0 (rtab md ops = T)) {a' : Act} (h : wpAnyLast P md ops Q S ds fuel l' a' w) (hi : ops[i]? = some o := by rfl) (hN : o.dst = N := by rfl) (hc : anyT T l.toList l'.toList i = true := by kernel_rfl) (hQ : ∀ c a w, Q (.panic c) (a.put o.dst v) w → Q (.panic c) a w := by exact fun _ _ _ h => h) (hg : o.guard = none ∨ True := by exact .inr trivial) (hy : Yields P ops o v a := by exact Or.inl ⟨by rfl, by intro w'; go_simp; with_reducible rfl⟩) (ha : a.put N v = a' := by simp only [Act.put, List.setIfInBounds_toArray, List.set_cons_zero, List.set_cons_succ, i64_w, i32_w]; rfl) : wpAnyLast P md ops Q S ds (fuel + 1) l a w := pure_ l' hi hN (any_of hT.out hc) hQ hy ha h
theorem ta_ (i : Nat) (N : Option Tmp) {v : Value} {fuel : Nat} {l : Array Bool} {w : World} (l' : Array Bool) (hT : Aside0 (rtab md ops = T)) (hB : Aside0 (waitsOk T.2 B = true)) (hS : S w) {a' : Act} (h : wpAnyLast P md ops Q S ds fuel l' a' w) (hi : ops[i]? = some o := by rfl) (hN : o.dst = N := by rfl) (hc : takeW T B ds l.toList l'.toList i = true := by kernel_rfl) (hQ : ∀ c a w, Q (.panic c) (a.put o.dst v) w → Q (.panic c) a w := by exact fun _ _ _ h => h) (hy : YieldsIf P ops S o v a := by exact Or.inl ⟨by rfl, by intro w' hs_; (repeat obtain ⟨s_, hs_⟩ := hs_); go_simp; with_reducible rfl⟩) (ha : a.put N v = a' := by simp only [Act.put, List.setIfInBounds_toArray, List.set_cons_zero, List.set_cons_succ, i64_w, i32_w]; rfl) : wpAnyLast P md ops Q S ds (fuel + 1) l a w := take_ l' hi hN (take_ofW hT.out hB.out hc) hQ hy hS ha h
theorem on_ (i : Nat) (N : Option Tmp) {fuel : Nat} {l : Array Bool} {w : World} (l' : Array Bool) (hT : Aside0 (rtab md ops = T)) (h : ∀ K : Act → World → Prop, Shut (∀ a' w', S w' → (S w' → wpAnyLast P md ops Q S ds fuel l' a' w') → K a' w') → if Region.wanted o (yielded ops a.tmps) = true then Oper.wp P o a w K Q else K (a.put N undef) w) (hi : ops[i]? = some o := by rfl) (hN : o.dst = N := by rfl) (hc : (readyT T.2 l.toList == [i] && l.toList.set i true == l'.toList) = true := by kernel_rfl) (hd : i ∉ ds := by decide) : wpAnyLast P md ops Q S ds (fuel + 1) l a w := one_ l' hi hN (one_of hT.out hc) hd h
theorem no_ {v : Value} {fuel : Nat} {l : Array Bool} {w : World} (N : Option Tmp) {a' : Act} (h : wpAnyLast P md ops Q S ds fuel l a' w) (ha : a.put N v = a' := by simp only [Act.put, List.setIfInBounds_toArray, List.set_cons_zero, List.set_cons_succ, i64_w, i32_w]; rfl) : wpAnyLast P md ops Q S ds fuel l (a.put N v) w := norm_ ha h
end
end Go.Proofs.Ytoijcallajegfaa.A
end
section
namespace Go.Proofs.Ytoijcallajegfaa.A
open Go.RowKit Go.Proofs.YtoijcallajegfaaW.PrintWords Go.Proofs.YtoijcallajegfaaW.PrintLast Go.Proofs.YtoijcallajegfaaW.PrintMore
attribute [local go_sem] max2_int min2_int max_two min_two max_three min_three max_four min_four
set_option linter.unusedVariables false
set_option linter.unusedSimpArgs false
def impl_PermOk.l0 : Nat → List Int → List Bool → Int → Option Bool
  | 0, _, _, _ => none
  | k + 1, l, s, i => if i < (l.length : Int) then (if 0 ≤ i then (if rd l i < 0 then some false else (if rd l i ≥ (l.length : Int) then some false else (if rdOf false s (rd l i) = true then some false else impl_PermOk.l0 k l (s.set (rd l i).toNat true) (wrap64 (i + 1))))) else none) else some true
def impl_PermOk.f (k : Nat) (l0 : List Int) : Option Bool := if (l0.length : Int) > 24 then some false else impl_PermOk.l0 k l0 (List.replicate 24 false) 0
theorem impl_PermOk.mono_l : ∀ k, (∀ y0 y1 y2, LeO (impl_PermOk.l0 k y0 y1 y2) (impl_PermOk.l0 (k + 1) y0 y1 y2))
  | 0 => fun _ _ _ r h => by simp [impl_PermOk.l0] at h
  | k + 1 => by
    have ih0 := impl_PermOk.mono_l k
    · intro y0 y1 y2
      unfold impl_PermOk.l0
      repeat' first|exact ih0 _ _ _|exact lo_|refine LeO.ite ?_ ?_|refine LeO.bind ?_ (fun _ => ?_)
theorem impl_PermOk.mono : ∀ a0 k, LeO (impl_PermOk.f k a0) (impl_PermOk.f (k + 1) a0) := by
  intro a0 k
  unfold impl_PermOk.f
  exact LeO.ite (LeO.refl _) (impl_PermOk.mono_l k _ _ _)
def Z24 : Array Value := #[Value.bool false, Value.bool false, Value.bool false, Value.bool false, Value.bool false, Value.bool false, Value.bool false, Value.bool false, Value.bool false, Value.bool false, Value.bool false, Value.bool false, Value.bool false, Value.bool false, Value.bool false, Value.bool false, Value.bool false, Value.bool false, Value.bool false, Value.bool false, Value.bool false, Value.bool false, Value.bool false, Value.bool false]
theorem row_same (w : World) (g : Nat) (t : TypeId) (cur : Array Value) (hg : w.heap[g]? = some (.cells cur t (0, 0))) : w.setRow g cur = w := by
  have hv : ∀ h, w.heap[g]'h = .cells cur t (0, 0) := fun h => (Array.getElem?_eq_some_iff.1 hg).2
  unfold World.setRow
  cases w with
  | mk heap tape drawn os output =>
    congr 1
    apply Array.ext
    · simp
    · intro k h1 h2
      simp only [Array.getElem_modify]
      split
      · rename_i hk; subst hk; simp at hv; simp [hv h2]
      · rfl
theorem wpList_val {P : Program} {ops : Array Oper} {rest : List Oper} {o : Oper} {a : Act} {Q : Exit → Act → World → Prop} {w : World} (hg : o.guard = none) (v : Value) (w1 : World) (hrun : (execOp a.eval o).run P w = .ok (.value v) w1) (h : wpList P ops Q rest (a.put o.dst v) w1) : wpList P ops Q (o :: rest) a w :=
  wpList_plain hg fun K hK => by unfold Oper.wp; rw [hrun]; exact hK _ _ h
theorem perm_start (w : World) : Kd.R Kd.bool 137 (w.alloc (.cells Z24 137)) w.heap.size (fun _ => True) (.slice (some ⟨w.heap.size, 0, none⟩) 24 24) (List.replicate 24 false) := by
  have h := World.ownsRow_lit (base := w.heap.size) (e := 137) (size := 1) w Z24 24 (Nat.le_refl _) (by unfold maxLen; omega) rfl
  exact Kd.R_of_own (xs := List.replicate 24 false) h (fun _ _ => trivial)
set_option maxHeartbeats 8000000 in
set_option maxRecDepth 100000 in
theorem impl_PermOk.calls (k : Nat) (A0 : Option Addr) (c0 : Nat) (l0 : List Int) (r : Bool) (w : World) (hr0 : Kd.C (Kd.int .i64) w A0 l0.length l0) (hc0 : l0.length ≤ c0) (h : impl_PermOk.f k l0 = some r) :
    Calls Try.prog 109 #[.slice A0 l0.length c0] w fun e w' => e = .returned (.bool r) ∧ Below w.heap.size w w' := by
  have HR0 := Aside0.mk hr0
  have HC0 := Aside0.mk hc0
  clear hr0 hc0
  have hst := perm_start w
  have HST := Aside0.mk hst
  clear hst
  have hb0 : Below w.heap.size w (w.alloc (.cells Z24 137)) := (Below.refl _ _).alloc (Nat.le_refl _) _
  have HB0 := Aside0.mk hb0
  clear hb0
  unfold impl_PermOk.f at h
  by_cases c2 : (l0.length : Int) > 24
  · rw [if_pos c2] at h
    have c2b0 : decide (24 < (l0.length : Int)) = true := decide_eq_true c2
    have c2b1 : decide (24 < l0.length) = true := decide_eq_true (by omega)
    clear c2
    obtain rfl := Option.some.inj h
    go_enter Try.func109, Try.ntmps109
    go_upto_region 1 with (fail)
    refine wp_region_lit ?_
    refine wpList_val rfl (.agg Z24) w (by as_aux_lemma => kernel_rfl) ?_
    refine wpList_val rfl (.pointer (some ⟨w.heap.size, 0, none⟩)) (w.alloc (.cells Z24 137)) (by as_aux_lemma => kernel_rfl) ?_
    refine wpList_store_row rfl 137 (.tmp 3) (.tmp 6) rfl w.heap.size Z24 rfl rfl 137 Z24 (heap_alloc_new _ _) (by as_aux_lemma => kernel_rfl) rfl (by as_aux_lemma => kernel_rfl) ?_
    rw [row_same _ _ _ _ (heap_alloc_new _ _)]
    generalize w.alloc (.cells Z24 137) = wq at HB0 ⊢
    generalize Value.agg Z24 = ag
    go_wp2
    go_ret
    exact ⟨rfl, HB0.out⟩
  · rw [if_neg c2] at h
    have hn : l0.length ≤ 24 := by omega
    have HN := Aside0.mk hn
    clear hn
    have c2b0 : decide (24 < (l0.length : Int)) = false := decide_eq_false c2
    have c2b1 : decide (24 < l0.length) = false := decide_eq_false (by omega)
    clear c2
    have H' := Aside0.mk h
    clear h
    go_enter Try.func109, Try.ntmps109
    go_upto_region 1 with (fail)
    refine wp_region_lit ?_
    refine wpList_val rfl (.agg Z24) w (by as_aux_lemma => kernel_rfl) ?_
    refine wpList_val rfl (.pointer (some ⟨w.heap.size, 0, none⟩)) (w.alloc (.cells Z24 137)) (by as_aux_lemma => kernel_rfl) ?_
    refine wpList_store_row rfl 137 (.tmp 3) (.tmp 6) rfl w.heap.size Z24 rfl rfl 137 Z24 (heap_alloc_new _ _) (by as_aux_lemma => kernel_rfl) rfl (by as_aux_lemma => kernel_rfl) ?_
    rw [row_same _ _ _ _ (heap_alloc_new _ _)]
    generalize w.alloc (.cells Z24 137) = wq at HB0 HST ⊢
    generalize Value.agg Z24 = ag
    go_wp2
    go_loopg [12] k (fun kq v12 w' => ∃ (s : List Bool) (i : Int), v12 = .int .i64 i ∧ Aside0 (impl_PermOk.l0 kq l0 s i = some r) ∧ Aside0 (kq ≤ k) ∧ Aside0 (s.length = 24) ∧ Aside0 (Kd.R Kd.bool 137 w' w.heap.size (fun _ => True) (.slice (some ⟨w.heap.size, 0, none⟩) 24 24) s) ∧ Aside0 (Below w.heap.size w w'))
    case atStart => exact ⟨List.replicate 24 false, 0, rfl, H', ⟨Nat.le_refl _⟩, ⟨rfl⟩, HST, HB0⟩
    case round =>
      clear H' HST HB0
      obtain ⟨s, i, rfl, HA, HK1, HS, HO, HB⟩ := hrel
      cases gk with
      | zero => exact absurd HA.out (by simp [impl_PermOk.l0])
      | succ k1 =>
        have H := HA.out
        clear HA
        simp only [impl_PermOk.l0] at H
        by_cases c3 : i < (l0.length : Int)
        · rw [if_pos c3] at H
          have c4 := cp_ H
          replace H := ca_ H
          have c3b0 := decide_eq_true c3
          have c4b0 := decide_eq_true c4
          obtain ⟨ad, e0, hx⟩ := Kd.at_int HR0.out i c4 c3
          cases e0
          replace hx := (HB.out.cell (World.block_lt_of_cell? w _ hx)).trans hx
          replace c3 := eq_true c3
          replace c4 := eq_true c4
          by_cases c5 : rd l0 i < 0
          · rw [if_pos c5] at H
            have c5b0 := decide_eq_true c5
            clear c5
            obtain rfl := Option.some.inj H
            go_wp2
            go_ret
            exact ⟨rfl, HB.out⟩
          · rw [if_neg c5] at H
            have c5b0 := decide_eq_false c5
            by_cases c6 : rd l0 i ≥ (l0.length : Int)
            · rw [if_pos c6] at H
              have c6b0 : decide ((l0.length : Int) ≤ rd l0 i) = true := decide_eq_true c6
              clear c5 c6
              obtain rfl := Option.some.inj H
              go_wp2
              go_ret
              exact ⟨rfl, HB.out⟩
            · rw [if_neg c6] at H
              have c6b0 : decide ((l0.length : Int) ≤ rd l0 i) = false := decide_eq_false c6
              have p1 : 0 ≤ rd l0 i := by omega
              have p2 : rd l0 i < ((24 : Nat) : Int) := by have := HN.out; omega
              have p2' : rd l0 i < 24 := p2
              obtain ⟨hy, hz⟩ := Kd.R_celln false HO.out (rd l0 i) p1 p2
              have p1b : decide (0 ≤ rd l0 i) = true := decide_eq_true p1
              have p2b : decide (rd l0 i < 24) = true := decide_eq_true p2'
              clear c5 c6
              by_cases c7 : rdOf false s (rd l0 i) = true
              · rw [if_pos c7] at H
                rw [c7] at hy
                clear c7
                obtain rfl := Option.some.inj H
                go_wp2
                go_ret
                exact ⟨rfl, HB.out⟩
              · rw [if_neg c7] at H
                replace c7 := Bool.eq_false_iff.mpr c7
                rw [c7] at hy
                clear c7
                have H' := Aside0.mk H
                clear H
                have HP := Kd.R_putg HO.out (rd l0 i) true
                have HP' := Aside0.mk HP
                clear HP
                go_wp2
                go_roundg k1
                case measure => have := HK1.out; omega
                case rel => exact ⟨s.set (rd l0 i).toNat true, wrap64 (i + 1), rfl, H', ⟨by have := HK1.out; omega⟩, ⟨by rw [List.length_set]; exact HS.out⟩, ⟨HP'.out.1⟩, ⟨below_set HB.out (Nat.le_refl _)⟩⟩
        · rw [if_neg c3] at H
          have c3b0 := decide_eq_false c3
          clear c3
          obtain rfl := Option.some.inj H
          go_wp2
          go_ret
          exact ⟨rfl, HB.out⟩
end Go.Proofs.Ytoijcallajegfaa.A
end
section
namespace Go.Proofs.Ytoijcallajegfaa.A
open Go.RowKit Go.Proofs.YtoijcallajegfaaW.PrintWords Go.Proofs.YtoijcallajegfaaW.PrintLast Go.Proofs.YtoijcallajegfaaW.PrintMore
attribute [local go_sem] max2_int min2_int max_two min_two max_three min_three max_four min_four
set_option linter.unusedVariables false
set_option linter.unusedSimpArgs false
mutual
def impl_IsTransitive.j0 : Nat → List Int → List Int → Bool → Option (Bool)
  | 0, _, _, _ => none
  | k + 1, x0, x1, x29 => if x29 = true then (some false) else (if 0 ≤ (x0.length : Int) then (if ((x0.length : Int) : Int).toNat ≤ 281474976710656 then ((some (List.replicate ((x0.length : Int) : Int).toNat false : List Bool)).bind fun y117 => (if 0 < (y117.length : Int) then (impl_IsTransitive.l0 k x0 x1 (y117.set (0 : Int).toNat true) (([0] : List Int)) 0) else (none))) else (none)) else (none))
def impl_IsTransitive.l0 : Nat → List Int → List Int → List Bool → List Int → Int → Option (Bool)
  | 0, _, _, _, _, _ => none
  | k + 1, x0, x1, x5, x6, x7 => if x7 < (x6.length : Int) then (if 0 ≤ x7 then (if 0 ≤ (rd x6 x7) then (if (rd x6 x7) < (x0.length : Int) then (if (rd x6 x7) < (x1.length : Int) then ((some (([rd x0 (rd x6 x7), rd x1 (rd x6 x7)] : List Int) : List Int)).bind fun y128 => (impl_IsTransitive.l1 k x0 x1 x5 x6 x7 y128 (y128.length : Int) 0)) else (none)) else (none)) else (none)) else (none)) else (some ((x6.length : Int) == (x0.length : Int)))
def impl_IsTransitive.l1 : Nat → List Int → List Int → List Bool → List Int → Int → List Int → Int → Int → Option (Bool)
  | 0, _, _, _, _, _, _, _, _ => none
  | k + 1, x0, x1, x5, x6, x7, x56, x57, x58 => if x58 < x57 then (if 0 ≤ x58 then (if x58 < (x56.length : Int) then (if 0 ≤ (rd x56 x58) then (if (rd x56 x58) < (x5.length : Int) then (if (rdOf false x5 (rd x56 x58) = true) then (impl_IsTransitive.l1 k x0 x1 x5 x6 x7 x56 x57 (wrap64 (x58 + 1))) else (if x6.length < 17592186044416 then (impl_IsTransitive.l1 k x0 x1 (x5.set ((rd x56 x58) : Int).toNat true) (x6 ++ [rd x56 x58]) x7 x56 x57 (wrap64 (x58 + 1))) else (none))) else (none)) else (none)) else (none)) else (none)) else (impl_IsTransitive.l0 k x0 x1 x5 x6 (wrap64 (x7 + 1)))
end
def impl_IsTransitive.f (k : Nat) (l0 : List Int) (l1 : List Int) : Option (Bool) := (impl_PermOk.f k l0).bind fun t115 => (if t115 = true then ((impl_PermOk.f k l1).bind fun t116 => (if t116 = true then (if (l0.length : Int) = (l1.length : Int) then (impl_IsTransitive.j0 k l0 l1 ((l0.length : Int) == 0)) else (impl_IsTransitive.j0 k l0 l1 true)) else (impl_IsTransitive.j0 k l0 l1 true))) else (impl_IsTransitive.j0 k l0 l1 true))
theorem impl_IsTransitive.mono_l : ∀ k, (∀ y0 y1 y2, LeO (impl_IsTransitive.j0 k y0 y1 y2) (impl_IsTransitive.j0 (k + 1) y0 y1 y2)) ∧ (∀ y0 y1 y2 y3 y4, LeO (impl_IsTransitive.l0 k y0 y1 y2 y3 y4) (impl_IsTransitive.l0 (k + 1) y0 y1 y2 y3 y4)) ∧ (∀ y0 y1 y2 y3 y4 y5 y6 y7, LeO (impl_IsTransitive.l1 k y0 y1 y2 y3 y4 y5 y6 y7) (impl_IsTransitive.l1 (k + 1) y0 y1 y2 y3 y4 y5 y6 y7))
  | 0 => ⟨fun _ _ _ r h => by simp [impl_IsTransitive.j0] at h, fun _ _ _ _ _ r h => by simp [impl_IsTransitive.l0] at h, fun _ _ _ _ _ _ _ _ r h => by simp [impl_IsTransitive.l1] at h⟩
  | k + 1 => by
    obtain ⟨ih0, ih1, ih2⟩ := impl_IsTransitive.mono_l k
    refine ⟨?_, ?_, ?_⟩
    · intro y0 y1 y2
      unfold impl_IsTransitive.j0
      repeat' first|exact ih0 _ _ _|exact ih1 _ _ _ _ _|exact ih2 _ _ _ _ _ _ _ _|exact impl_PermOk.mono _ _|exact lo_|refine LeO.ite ?_ ?_|refine LeO.bind ?_ (fun _ => ?_)
    · intro y0 y1 y2 y3 y4
      unfold impl_IsTransitive.l0
      repeat' first|exact ih0 _ _ _|exact ih1 _ _ _ _ _|exact ih2 _ _ _ _ _ _ _ _|exact impl_PermOk.mono _ _|exact lo_|refine LeO.ite ?_ ?_|refine LeO.bind ?_ (fun _ => ?_)
    · intro y0 y1 y2 y3 y4 y5 y6 y7
      unfold impl_IsTransitive.l1
      repeat' first|exact ih0 _ _ _|exact ih1 _ _ _ _ _|exact ih2 _ _ _ _ _ _ _ _|exact impl_PermOk.mono _ _|exact lo_|refine LeO.ite ?_ ?_|refine LeO.bind ?_ (fun _ => ?_)
theorem impl_IsTransitive.mono : ∀ a0 a1 k, LeO (impl_IsTransitive.f k a0 a1) (impl_IsTransitive.f (k + 1) a0 a1) := by
  intro a0 a1 k
  obtain ⟨ih0, ih1, ih2⟩ := impl_IsTransitive.mono_l k
  unfold impl_IsTransitive.f
  repeat' first|exact ih0 _ _ _|exact ih1 _ _ _ _ _|exact ih2 _ _ _ _ _ _ _ _|exact impl_PermOk.mono _ _|exact lo_|refine LeO.ite ?_ ?_|refine LeO.bind ?_ (fun _ => ?_)
def impl_IsTransitive.T9 : Bool × List (List Nat × List Nat) := (true, [([], []), ([], []), ([], []), ([1, 2], [1, 2]), ([3], [3]), ([0, 4], [0, 4]), ([5], [5]), ([], []), ([], []), ([], []), ([8, 9], [8, 9]), ([10], [10]), ([7, 11], [7, 11]), ([12], [12]), ([6, 13], [6, 13]), ([14], [14]), ([], [])])
def impl_IsTransitive.B9 : List Nat := [0, 0, 0, 6, 14, 31, 63, 0, 0, 0, 768, 1792, 3968, 8064, 16383, 32767, 0]
theorem impl_IsTransitive.tab9 : rtab .any (opsOf Try.f61 9) = impl_IsTransitive.T9 := by kernel_rfl
theorem impl_IsTransitive.bits9 : waitsOk impl_IsTransitive.T9.2 impl_IsTransitive.B9 = true := by kernel_rfl
set_option maxHeartbeats 8000000 in
set_option maxRecDepth 100000 in
theorem impl_IsTransitive.calls (k : Nat) (A0 : Option Addr) (c0 : Nat) (l0 : List Int) (A1 : Option Addr) (c1 : Nat) (l1 : List Int) (r : Bool) (w : World) (hr0 : Kd.C (Kd.int .i64) w A0 l0.length l0) (hc0 : l0.length ≤ c0) (hr1 : Kd.C (Kd.int .i64) w A1 l1.length l1) (hc1 : l1.length ≤ c1) (h : impl_IsTransitive.f k l0 l1 = some r) :
    Calls Try.prog 61 #[.slice A0 l0.length c0, .slice A1 l1.length c1] w fun e w' => e = .returned (.bool r) ∧ Below w.heap.size w w' := by
  have HR0 := Aside0.mk hr0
  have HC0 := Aside0.mk hc0
  clear hr0 hc0
  have HR1 := Aside0.mk hr1
  have HC1 := Aside0.mk hc1
  clear hr1 hc1
  have HB := Aside0.mk (Below.refl w.heap.size w)
  have H := h
  unfold impl_IsTransitive.f at H
  clear h
  have HC3 := Aside0.mk H
  clear H
  go_enter Try.func61, Try.ntmps61
  go_upto_region 1 with (fail)
  go_cut [29] (fun v29 wc => ∃ (kq : Nat) (x29_2 : Bool), v29 = .bool x29_2 ∧ Aside0 (impl_IsTransitive.j0 kq l0 l1 x29_2 = some r) ∧ Aside0 (kq ≤ k) ∧ Aside0 (Below w.heap.size w wc))
  case first =>
    have H := HC3.out
    clear HC3
    obtain ⟨t115, A4, H⟩ := bi_ H
    by_cases c5 : t115 = true
    · subst c5
      rw [if_pos rfl] at H
      obtain ⟨t116, A6, H⟩ := bi_ H
      by_cases c7 : t116 = true
      · subst c7
        rw [if_pos rfl] at H
        by_cases c8 : (l0.length : Int) = (l1.length : Int)
        · rw [if_pos c8] at H
          have c8b0 : ((l0.length : Int) == (l1.length : Int)) = true := beq_iff_eq.mpr c8
          have c8b1 : ((l0.length : Int) != (l1.length : Int)) = false := bne_eq_false_iff_eq.mpr c8
          have c8b2 : (l0.length == l1.length) = true := by first | simpa using c8 | (simp at c8 ⊢; omega)
          clear c8
          (first | rw [c8b0] | (simp only [i64_w, i32_w]; rw [c8b0]) | skip)
          have H' := Aside0.mk H
          clear H
          go_wp2_with (first | ((with_reducible refine gate_callee (f := 109) rfl ?_); refine gL_ (some 11) Try.func109 #[.slice A0 l0.length c0] rfl qa_ ?_; (with_reducible refine (impl_PermOk.calls k _ _ l0 true _ (cb_ HR0) HC0.out A4.out).mono ?_); rintro e w9 ⟨rfl, hb⟩; refine ⟨_, rfl, ?_⟩; replace HB := b1_ hb; clear hb) | (go_at_call 109; (with_reducible refine (impl_PermOk.calls k _ _ l1 true _ (cb_ HR1) HC1.out A6.out).mono ?_); rintro e w10 ⟨rfl, hb⟩; replace HB := b1_ hb; clear hb))
          go_meet
          case rel => exact ⟨_, (((l0.length : Int) == 0)), qc_, H', ⟨qd_⟩, ⟨hB_⟩⟩
        · rw [if_neg c8] at H
          have c8b0 : ((l0.length : Int) == (l1.length : Int)) = false := beq_eq_false_iff_ne.mpr c8
          have c8b1 : ((l0.length : Int) != (l1.length : Int)) = true := bne_iff_ne.mpr c8
          have c8b2 : (l0.length == l1.length) = false := by first | simpa using c8 | (simp at c8 ⊢; omega)
          (first | rw [c8b0] | (simp only [i64_w, i32_w]; rw [c8b0]) | skip)
          have H' := Aside0.mk H
          clear H
          go_wp2_with (first | ((with_reducible refine gate_callee (f := 109) rfl ?_); refine gL_ (some 11) Try.func109 #[.slice A0 l0.length c0] rfl qa_ ?_; (with_reducible refine (impl_PermOk.calls k _ _ l0 true _ (cb_ HR0) HC0.out A4.out).mono ?_); rintro e w11 ⟨rfl, hb⟩; refine ⟨_, rfl, ?_⟩; replace HB := b1_ hb; clear hb) | (go_at_call 109; (with_reducible refine (impl_PermOk.calls k _ _ l1 true _ (cb_ HR1) HC1.out A6.out).mono ?_); rintro e w12 ⟨rfl, hb⟩; replace HB := b1_ hb; clear hb))
          go_meet
          case rel => exact ⟨_, (true), qc_, H', ⟨qd_⟩, ⟨hB_⟩⟩
      · replace c7 := Bool.eq_false_iff.mpr c7
        subst c7
        have H1 : (impl_IsTransitive.j0 k l0 l1 true) = some r := by rw [if_neg (show ¬ (false = true) by decide)] at H; exact H
        clear H
        have H := H1
        clear H1
        have H' := Aside0.mk H
        clear H
        go_wp2_with (first | ((with_reducible refine gate_callee (f := 109) rfl ?_); refine gL_ (some 11) Try.func109 #[.slice A0 l0.length c0] rfl qa_ ?_; (with_reducible refine (impl_PermOk.calls k _ _ l0 true _ (cb_ HR0) HC0.out A4.out).mono ?_); rintro e w13 ⟨rfl, hb⟩; refine ⟨_, rfl, ?_⟩; replace HB := b1_ hb; clear hb) | (go_at_call 109; (with_reducible refine (impl_PermOk.calls k _ _ l1 false _ (cb_ HR1) HC1.out A6.out).mono ?_); rintro e w14 ⟨rfl, hb⟩; replace HB := b1_ hb; clear hb))
        go_meet
        case rel => exact ⟨_, (true), qc_, H', ⟨qd_⟩, ⟨hB_⟩⟩
    · replace c5 := Bool.eq_false_iff.mpr c5
      subst c5
      have H1 : (impl_IsTransitive.j0 k l0 l1 true) = some r := by rw [if_neg (show ¬ (false = true) by decide)] at H; exact H
      clear H
      have H := H1
      clear H1
      have H' := Aside0.mk H
      clear H
      go_wp2_with (first | ((with_reducible refine gate_callee (f := 109) rfl ?_); refine gL_ (some 11) Try.func109 #[.slice A0 l0.length c0] rfl qa_ ?_; (with_reducible refine (impl_PermOk.calls k _ _ l0 false _ (cb_ HR0) HC0.out A4.out).mono ?_); rintro e w15 ⟨rfl, hb⟩; refine ⟨_, rfl, ?_⟩; replace HB := b1_ hb; clear hb))
      go_meet
      case rel => exact ⟨_, (true), qc_, H', ⟨qd_⟩, ⟨hB_⟩⟩
  case rest =>
    clear HC3
    obtain ⟨kq, x29_2, rfl, HA, HJ2, HB⟩ := hcut
    cases kq with
    | zero => exact absurd HA.out (by simp [impl_IsTransitive.j0])
    | succ kj2 =>
      have H := HA.out
      clear HA
      simp only [impl_IsTransitive.j0] at H
      by_cases c16 : x29_2 = true
      · subst c16
        rw [if_pos rfl] at H
        obtain rfl := Option.some.inj H
        go_wp2
        go_ret
        exact ⟨qb_, hB_⟩
      · replace c16 := Bool.eq_false_iff.mpr c16
        subst c16
        have H1 : (if 0 ≤ (l0.length : Int) then (if ((l0.length : Int) : Int).toNat ≤ 281474976710656 then ((some (List.replicate ((l0.length : Int) : Int).toNat false : List Bool)).bind fun y117 => (if 0 < (y117.length : Int) then (impl_IsTransitive.l0 kj2 l0 l1 (y117.set (0 : Int).toNat true) (([0] : List Int)) 0) else (none))) else (none)) else (none)) = some r := by rw [if_neg (show ¬ (false = true) by decide)] at H; exact H
        clear H
        have H := H1
        clear H1
        have c17 := cp_ H
        replace H := ca_ H
        have c17b0 := eq_true c17
        have c17b1 := decide_eq_true c17
        clear c17
        have c18 := cp_ H
        replace H := ca_ H
        have c18b0 := eq_true c18
        have c18b1 := decide_eq_true c18
        clear c18
        obtain ⟨y117, hy117⟩ : ∃ y_ : List Bool, y_ = (List.replicate ((l0.length : Int) : Int).toNat false) := ⟨_, rfl⟩
        replace H : (if 0 < (y117.length : Int) then (impl_IsTransitive.l0 kj2 l0 l1 (y117.set (0 : Int).toNat true) (([0] : List Int)) 0) else (none)) = some r := by first | (rw [hy117]; exact H) | exact H
        have Ny117 := Aside0.mk hy117
        clear hy117
        have c19 := cp_ H
        replace H := ca_ H
        have c19b0 := decide_eq_true c19
        have c19b1 : decide (0 < y117.length) = true := decide_eq_true (by omega)
        clear c19
        obtain ⟨y120, hy120⟩ : ∃ y_ : List Bool, y_ = (y117.set (0 : Int).toNat true) := ⟨_, rfl⟩
        replace H : (impl_IsTransitive.l0 kj2 l0 l1 y120 (([0] : List Int)) 0) = some r := by first | (rw [hy120]; exact H) | exact H
        have Ny120 := Aside0.mk hy120
        clear hy120
        obtain ⟨y121, hy121⟩ : ∃ y_ : List Int, y_ = (([0] : List Int)) := ⟨_, rfl⟩
        replace H : (impl_IsTransitive.l0 kj2 l0 l1 y120 y121 0) = some r := by first | (rw [hy121]; exact H) | exact H
        have Ny121 := Aside0.mk hy121
        clear hy121
        have H' := Aside0.mk H
        clear H
        go_wp2_with (first | ((with_reducible refine gate_dst (N := 32) rfl ?_); (try (refine gate_guard (by rfl) ?_; dsimp only)); refine Kd.R_make Kd.bool _ 4 rfl (N := 32) rfl 111 _ _ rfl (l0.length : Int) rfl rfl Try.underlying111 (.bool false) 1 info4 rfl (by decide) (by omega) false (ok := fun _ => True) (okp := fun _ => True) rfl (fun _ hk => hk) trivial (of_decide_eq_true qe_) (Nat.le_trans (Nat.mul_le_mul_right _ (of_decide_eq_true qe_ : (l0.length : Int).toNat ≤ 281474976710656)) (by omega)) (Below.refl _ _) (Nat.le_refl _) ?_; intro v118 w21 ho22 hb hg_ hnew_; clear hg_ hnew_; (first | rw [← Ny117.out] at ho22 | (simp only [Int.reduceToNat] at ho22; rw [← Ny117.out] at ho22)); have HO119 := rl_ w ho22; replace HB := b1_ hb; clear hb ho22; have p20 : 0 ≤ (0 : Int) := (by omega); have q20 : (0 : Int) < ((y117.length : Int) : Int) := of_decide_eq_true qe_; have qi20 : (0 < y117.length) = True := eq_true (by omega); obtain ⟨go20, co20, eo20, gb20, gl20, cl20, HG20⟩ := Kd.R_form HO119.out (by omega); (first | cases eo20 | (injection eo20 with ea_ en_ ec_; (first | subst ea_ | (injection ea_ with ea_; subst ea_)); subst ec_; clear en_)); have GB20 := Aside0.mk gb20; have GG20 := Aside0.mk HG20; clear gb20 gl20 HG20; obtain ⟨hx20_0, hf20_0⟩ := Kd.R_celln false HO119.out (0 : Int) p20 q20; (try rw [show ((0 : Int)).toNat = 0 from rfl] at hx20_0); (try simp only [Nat.reduceMul, Nat.zero_mul, Nat.zero_add, Nat.reduceAdd] at hx20_0); (try rw [show ((0 : Int)).toNat = 0 from rfl] at hf20_0); (try simp only [Nat.reduceMul, Nat.zero_mul, Nat.zero_add, Nat.reduceAdd] at hf20_0); replace p20 := eq_true p20; replace q20 := eq_true q20; obtain ⟨hy23_, hz23_⟩ := Kd.R_celln false HO119.out (0 : Int) (by omega) (of_decide_eq_true qe_); (try simp only [Int.reduceToNat, Int.toNat_zero, Int.toNat_ofNat, Nat.reduceMul, Nat.zero_mul, Nat.zero_add] at hy23_ hz23_); (try rw [show ((0 : Int)).toNat = 0 from rfl] at hy23_); (try rw [show ((0 : Int)).toNat = 0 from rfl] at hz23_); have HP23 := Kd.R_putg HO119.out (0 : Int) true) | ((with_reducible refine gate_store (t := 4) (p := 34) rfl ?_); refine store_event (t := 4) (p := 34) (v := ?vo_w24) (w1 := (w21.setCell ⟨go20, (0 : Int).toNat, none⟩ (.bool true))) ?hg ?ho ?hn ?hr ?_; (case ho => rfl); (case hg => rfl); (case hn => rfl); (case hr => first | (go_simp; done) | (go_simp; rfl)); intro w24 hw; have hg : w21.grownBy w24 (some go20) := (by rw [hw]; exact HP23.2); have hp_ : Kd.R Kd.bool 4 w24 w.heap.size (fun _ => True) (.slice (some ⟨go20, 0, none⟩) y117.length co20) y120 := (by rw [hw, Ny120.out]; exact HP23.1); clear HP23; replace HO119 := Aside0.mk (hp_); replace HB := Aside0.mk ((by rw [hw]; exact below_set (HB.out) GB20.out : Below w.heap.size w w24)); clear hg hw hp_) | ((with_reducible refine gate_dst (N := 35) rfl ?_); (try (refine gate_guard (by rfl) ?_; dsimp only)); refine Kd.R_lit (Kd.int .i64) _ 3 ?hg (N := 35) ?hd (xs := ([0] : List Int)) (inner := [.int .i64 0]) (ok := fun _ => True) (okp := fun _ => True) ?hr ?hp (fun _ hk => hk) trivial (Below.refl _ _) (Nat.le_refl _) (by simp) ?_; (case hd => rfl); (case hg => rfl); (case hr => first | (go_simp; done) | (go_simp; rfl)); (case hp => exact (Reps.one (show Kd.M (Kd.int .i64) _ _ _ 0 [.int .i64 0] from rfl) (Reps.none _ _))); intro v122 w25 ho26 hb hg_ hnew_; clear hg_ hnew_; (first | rw [← Ny121.out] at ho26 | (simp only [Int.reduceToNat] at ho26; rw [← Ny121.out] at ho26)); replace HO119 := rb_ HO119 hb; have HO123 := rl_ w ho26; replace HB := b1_ hb; clear hb ho26))
        go_loopg [6, 7] kj2 (fun kq v6 v7 w' => ∃ (x5_2 : List Bool) (x6_2 : List Int) (x7_2 : Int), v7 = .int .i64 x7_2 ∧ Aside0 (impl_IsTransitive.l0 kq l0 l1 x5_2 x6_2 x7_2 = some r) ∧ Aside0 (kq ≤ kj2) ∧ Aside0 (Kd.R Kd.bool 4 w' w.heap.size (fun _ => True) (.slice (some ⟨go20, 0, none⟩) y117.length co20) x5_2) ∧ Aside0 (Kd.R (Kd.int .i64) 3 w' w.heap.size (fun _ => True) v6 x6_2) ∧ Aside0 (Below w.heap.size w w'))
        case atStart => exact ⟨(y120), (y121), (0), qc_, H', ⟨Nat.le_refl _⟩, ⟨(rr_ HO119)⟩, ⟨(rr_ HO123)⟩, ⟨hB_⟩⟩
        case round =>
          clear H'
          obtain ⟨x5_2, x6_2, x7_2, rfl, HA, HK2, HO_5, HO_6, HB⟩ := hrel
          have hl5_2 := (Kd.R_reads' HO_5.out).1
          rw [hl5_2] at HO_5
          (try simp only [hl5_2])
          (try simp only [hl5_2] at HO_6)
          cases gk with
          | zero => exact absurd HA.out (by simp [impl_IsTransitive.l0])
          | succ k2 =>
            have H := HA.out
            clear HA
            simp only [impl_IsTransitive.l0] at H
            by_cases c27 : x7_2 < (x6_2.length : Int)
            · rw [if_pos c27] at H
              have c27b0 := decide_eq_true c27
              clear c27
              have c28 := cp_ H
              replace H := ca_ H
              have c28b0 := decide_eq_true c28
              clear c28
              have c29 := cp_ H
              replace H := ca_ H
              have c29b0 := decide_eq_true c29
              clear c29
              have c30 := cp_ H
              replace H := ca_ H
              have c30b0 := decide_eq_true c30
              clear c30
              have c31 := cp_ H
              replace H := ca_ H
              have c31b0 := decide_eq_true c31
              clear c31
              obtain ⟨y128, hy128⟩ : ∃ y_ : List Int, y_ = (([rd l0 (rd x6_2 x7_2), rd l1 (rd x6_2 x7_2)] : List Int)) := ⟨_, rfl⟩
              replace H : (impl_IsTransitive.l1 k2 l0 l1 x5_2 x6_2 x7_2 y128 (y128.length : Int) 0) = some r := by first | (rw [hy128]; exact H) | exact H
              have Ny128 := Aside0.mk hy128
              clear hy128
              have H' := Aside0.mk H
              clear H
              obtain ⟨Ao32, co32, eo32⟩ := Kd.R_slice HO_6.out
              subst eo32
              try go_wp2
              replace HO_5 := Aside0.mk (Kd.R_drew HO_5.out)
              replace HO_6 := Aside0.mk (Kd.R_drew HO_6.out)
              replace HB := Aside0.mk (below_drew1 HB.out)
              have p124 : 0 ≤ (x7_2 : Int) := of_decide_eq_true qe_
              have q124 : x7_2 < (x6_2.length : Int) := of_decide_eq_true qe_
              obtain ⟨ad124, e124, hx124_0⟩ := Kd.at_int (Kd.R_reads' HO_6.out).2.2 x7_2 p124 q124
              cases e124
              replace p124 := eq_true p124
              replace q124 := eq_true q124
              have p125 : 0 ≤ ((rd x6_2 x7_2) : Int) := of_decide_eq_true qe_
              have q125 : (rd x6_2 x7_2) < (l0.length : Int) := of_decide_eq_true qe_
              obtain ⟨ad125, e125, hx125_0⟩ := Kd.at_int HR0.out (rd x6_2 x7_2) p125 q125
              have hw125_0 := hx125_0
              cases e125
              replace hx125_0 := (HB.out.cell (World.block_lt_of_cell? w _ hx125_0)).trans hx125_0
              replace p125 := eq_true p125
              replace q125 := eq_true q125
              have p126 : 0 ≤ (x7_2 : Int) := of_decide_eq_true qe_
              have q126 : x7_2 < (x6_2.length : Int) := of_decide_eq_true qe_
              obtain ⟨ad126, e126, hx126_0⟩ := Kd.at_int (Kd.R_reads' HO_6.out).2.2 x7_2 p126 q126
              obtain rfl : ad124 = ad126 := (by injection e126)
              replace p126 := eq_true p126
              replace q126 := eq_true q126
              have p127 : 0 ≤ ((rd x6_2 x7_2) : Int) := of_decide_eq_true qe_
              have q127 : (rd x6_2 x7_2) < (l1.length : Int) := of_decide_eq_true qe_
              obtain ⟨ad127, e127, hx127_0⟩ := Kd.at_int HR1.out (rd x6_2 x7_2) p127 q127
              have hw127_0 := hx127_0
              cases e127
              replace hx127_0 := (HB.out.cell (World.block_lt_of_cell? w _ hx127_0)).trans hx127_0
              replace p127 := eq_true p127
              replace q127 := eq_true q127
              refine start_ (n := 17) (S := fun w' => w'.cell? (ad124.add (x7_2).toNat) = some (.int .i64 (rd x6_2 x7_2)) ∧ w'.cell? (ad125.add ((rd x6_2 x7_2)).toNat) = some (.int .i64 (rd l0 (rd x6_2 x7_2))) ∧ w'.cell? (ad124.add (x7_2).toNat) = some (.int .i64 (rd x6_2 x7_2)) ∧ w'.cell? (ad127.add ((rd x6_2 x7_2)).toNat) = some (.int .i64 (rd l1 (rd x6_2 x7_2)))) (ds := []) (bl_ 17 0) (by kernel_rfl) rfl (by kernel_rfl) ⟨hx124_0, ((HB.out.cell (World.block_lt_of_cell? w _ hw125_0)).trans hw125_0), hx126_0, ((HB.out.cell (World.block_lt_of_cell? w _ hw127_0)).trans hw127_0)⟩ (fun hHeld => ?_); refine with_tabW impl_IsTransitive.tab9 impl_IsTransitive.bits9 (fun HT_ HW_ => ?_)
              generalize wr.drew = w33 at HO_5 HO_6 HB hx124_0 hx125_0 hx126_0 hx127_0 hHeld ⊢
              refine pu_ 0 (some 42) (bl_ 17 1) HT_ ?_
              refine pu_ 1 (some 43) (bl_ 17 3) HT_ ?_
              refine pu_ 2 (some 44) (bl_ 17 7) HT_ ?_
              refine pu_ 3 (some 45) (bl_ 17 15) HT_ ?_
              refine pu_ 7 (some 49) (bl_ 17 143) HT_ ?_
              refine pu_ 8 (some 50) (bl_ 17 399) HT_ ?_
              refine pu_ 9 (some 51) (bl_ 17 911) HT_ ?_
              refine pu_ 10 (some 52) (bl_ 17 1935) HT_ ?_
              refine pu_ 16 (some 58) (bl_ 17 67471) HT_ ?_
              refine ta_ 4 (some 46) (bl_ 17 67487) HT_ HW_ hHeld ?_
              refine pu_ 5 (some 47) (bl_ 17 67519) HT_ ?_
              refine ta_ 6 (some 48) (bl_ 17 67583) HT_ HW_ hHeld ?_
              refine ta_ 11 (some 53) (bl_ 17 69631) HT_ HW_ hHeld ?_
              refine pu_ 12 (some 54) (bl_ 17 73727) HT_ ?_
              refine ta_ 13 (some 55) (bl_ 17 81919) HT_ HW_ hHeld ?_
              refine on_ 14 (some 56) (bl_ 17 98303) HT_ (fun K hK => ?_)
              refine Kd.R_lit_step (Kd.int .i64) _ 3 ?hg (N := 56) ?hd (xs := ([rd l0 (rd x6_2 x7_2), rd l1 (rd x6_2 x7_2)] : List Int)) (inner := [.int .i64 (rd l0 (rd x6_2 x7_2)), .int .i64 (rd l1 (rd x6_2 x7_2))]) (ok := fun _ => True) (okp := fun _ => True) ?hr ?hp (fun _ hk => hk) trivial (Below.refl _ _) (Nat.le_refl _) (by simp) ?_; (case hd => rfl); (case hg => rfl); (case hr => first | (go_simp; done) | (go_simp; rfl)); (case hp => exact (Reps.one (show Kd.M (Kd.int .i64) _ _ _ (rd l0 (rd x6_2 x7_2)) [.int .i64 (rd l0 (rd x6_2 x7_2))] from rfl) (Reps.one (show Kd.M (Kd.int .i64) _ _ _ (rd l1 (rd x6_2 x7_2)) [.int .i64 (rd l1 (rd x6_2 x7_2))] from rfl) (Reps.none _ _))))
              intro v129 w34 ho35 hb hg_ hnew_
              have HS0_ := (hb.cell (World.block_lt_of_cell? _ _ (hHeld.1))).trans (hHeld.1)
              have HS2_ := (hb.cell (World.block_lt_of_cell? _ _ (hHeld.2.2.1))).trans (hHeld.2.2.1)
              clear hg_ hnew_
              (first | rw [← Ny128.out] at ho35 | (simp only [Int.reduceToNat] at ho35; rw [← Ny128.out] at ho35))
              replace HO_5 := rb_ HO_5 hb
              have HO130 := Aside0.mk (Kd.R_lower (Kd.R_new' ho35 (Kd.R_lt (rr_ HO_6))) (below_size hB_))
              replace HO_6 := Aside0.mk (Kd.R_elder' (rr_ HO_6) (Kd.R_base ho35) hb)
              replace HB := b1_ hb
              clear hb ho35
              obtain ⟨Ao36, co36, eo36⟩ := Kd.R_slice HO130.out
              (first | subst eo36 | (injection eo36 with f1_ f2_ f3_; have f4_ := f1_.symm; have f5_ := f3_.symm; clear f1_ f2_ f3_; subst f4_; subst f5_))
              refine hK.out _ _ ⟨HS0_, ((HB.out.cell (World.block_lt_of_cell? w _ hw125_0)).trans hw125_0), HS2_, ((HB.out.cell (World.block_lt_of_cell? w _ hw127_0)).trans hw127_0)⟩ (fun hHeld => ?_)
              clear hK K
              refine no_ (some 56) ?_
              refine pu_ 15 (some 57) (bl_ 17 131071) HT_ ?_
              refine done_ (done_of HT_.out (by kernel_rfl)) ?_
              try go_wp2
              go_loopg [6, 58] k2 (fun kq v6 v58 w' => ∃ (x5_3 : List Bool) (x6_3 : List Int) (x58_3 : Int), v58 = .int .i64 x58_3 ∧ Aside0 (impl_IsTransitive.l1 kq l0 l1 x5_3 x6_3 x7_2 y128 (y128.length : Int) x58_3 = some r) ∧ Aside0 (kq ≤ k2) ∧ Aside0 (Kd.R Kd.bool 4 w' w.heap.size (fun _ => True) (.slice (some ⟨go20, 0, none⟩) x5_2.length co20) x5_3) ∧ Aside0 (Kd.R (Kd.int .i64) 3 w' w.heap.size (fun k_ => some k_ ≠ ((.slice Ao36 y128.length co36) : Value).ownBlock) v6 x6_3) ∧ Aside0 (Kd.R (Kd.int .i64) 3 w' w.heap.size (fun k_ => some k_ ≠ (v6 : Value).ownBlock) (.slice Ao36 y128.length co36) y128) ∧ Aside0 (Below w.heap.size w w'))
              case atStart => exact ⟨(x5_2), (x6_2), (0), qc_, H', ⟨Nat.le_refl _⟩, ⟨by (try simp only [hl5_2]); (with_reducible repeat (first | apply Kd.R_alloc | apply Kd.R_drewN | apply Kd.R_drew)); exact HO_5.out⟩, ⟨by (try simp only [hl5_2]); (with_reducible repeat (first | apply Kd.R_alloc | apply Kd.R_drewN | apply Kd.R_drew)); exact Kd.R_mono HO_6.out (fun _ hk => hk.2)⟩, ⟨by (try simp only [hl5_2]); (with_reducible repeat (first | apply Kd.R_alloc | apply Kd.R_drewN | apply Kd.R_drew)); exact Kd.R_mono HO130.out (fun _ hk => hk.2)⟩, ⟨hB_⟩⟩
              case round =>
                clear H'
                obtain ⟨x5_3, x6_3, x58_3, rfl, HA, HK3, HO_5, HO_6, HO_56, HB⟩ := hrel
                have hl5_3 := (Kd.R_reads' HO_5.out).1
                rw [hl5_3] at HO_5
                (try simp only [hl5_3])
                (try simp only [hl5_3] at HO_6)
                (try simp only [hl5_3] at HO_56)
                cases gk with
                | zero => exact absurd HA.out (by simp [impl_IsTransitive.l1])
                | succ k3 =>
                  have H := HA.out
                  clear HA
                  simp only [impl_IsTransitive.l1] at H
                  by_cases c37 : x58_3 < (y128.length : Int)
                  · rw [if_pos c37] at H
                    have c37b0 := decide_eq_true c37
                    clear c37
                    have c38 := cp_ H
                    replace H := ca_ H
                    have c38b0 := decide_eq_true c38
                    clear c38
                    have c39 := cp_ H
                    replace H := ca_ H
                    have c39b0 := decide_eq_true c39
                    clear c39
                    have c40 := cp_ H
                    replace H := ca_ H
                    have c40b0 := decide_eq_true c40
                    clear c40
                    have c41 := cp_ H
                    replace H := ca_ H
                    have c41b0 := decide_eq_true c41
                    clear c41
                    obtain ⟨bq42, hbq42⟩ : ∃ b_ : Bool, b_ = (rdOf false x5_3 (rd y128 x58_3)) := ⟨_, rfl⟩
                    replace H : (if (bq42 = true) then (impl_IsTransitive.l1 k3 l0 l1 x5_3 x6_3 x7_2 y128 (y128.length : Int) (wrap64 (x58_3 + 1))) else (if x6_3.length < 17592186044416 then (impl_IsTransitive.l1 k3 l0 l1 (x5_3.set ((rd y128 x58_3) : Int).toNat true) (x6_3 ++ [rd y128 x58_3]) x7_2 y128 (y128.length : Int) (wrap64 (x58_3 + 1))) else (none))) = some r := by rw [← hbq42] at H; exact H
                    have Nbq42 := Aside0.mk hbq42
                    clear hbq42
                    by_cases c43 : (bq42 = true)
                    · subst c43
                      rw [if_pos rfl] at H
                      have H' := Aside0.mk H
                      clear H
                      have p131 : 0 ≤ (x58_3 : Int) := of_decide_eq_true qe_
                      have q131 : x58_3 < (y128.length : Int) := of_decide_eq_true qe_
                      obtain ⟨ad131, e131, hx131_0⟩ := Kd.at_int (Kd.R_reads' HO_56.out).2.2 x58_3 p131 q131
                      cases e131
                      replace p131 := eq_true p131
                      replace q131 := eq_true q131
                      have p132 : 0 ≤ ((rd y128 x58_3) : Int) := of_decide_eq_true qe_
                      have q132 : (rd y128 x58_3) < (x5_3.length : Int) := of_decide_eq_true qe_
                      obtain ⟨ad132, e132, hx132_0⟩ := Kd.at_bool (Kd.R_reads' HO_5.out).2.2 (rd y128 x58_3) p132 q132
                      (try rw [← Nbq42.out] at hx132_0)
                      obtain rfl : (⟨go20, 0, none⟩ : Addr) = ad132 := (by injection e132)
                      (first | simp only [add_plain] at hx132_0 | simp only [add_at] at hx132_0 | simp only [Addr.add, Nat.zero_add] at hx132_0 | skip)
                      replace p132 := eq_true p132
                      replace q132 := eq_true q132
                      go_wp2
                      (try simp only [← hl5_3])
                      go_roundg k3
                      case measure => have := HJ2.out; have := HK2.out; have := HK3.out; omega
                      case rel => exact ⟨(x5_3), (x6_3), (wrap64 (x58_3 + 1)), qc_, H', ⟨by have := HJ2.out; have := HK2.out; have := HK3.out; omega⟩, ⟨by (try simp only [hl5_2]); (try simp only [hl5_3]); (with_reducible repeat (first | apply Kd.R_alloc | apply Kd.R_drewN | apply Kd.R_drew)); exact HO_5.out⟩, ⟨by (try simp only [hl5_2]); (try simp only [hl5_3]); (with_reducible repeat (first | apply Kd.R_alloc | apply Kd.R_drewN | apply Kd.R_drew)); exact HO_6.out⟩, ⟨by (try simp only [hl5_2]); (try simp only [hl5_3]); (with_reducible repeat (first | apply Kd.R_alloc | apply Kd.R_drewN | apply Kd.R_drew)); exact HO_56.out⟩, ⟨hB_⟩⟩
                    · replace c43 := Bool.eq_false_iff.mpr c43
                      subst c43
                      have H1 : (if x6_3.length < 17592186044416 then (impl_IsTransitive.l1 k3 l0 l1 (x5_3.set ((rd y128 x58_3) : Int).toNat true) (x6_3 ++ [rd y128 x58_3]) x7_2 y128 (y128.length : Int) (wrap64 (x58_3 + 1))) else (none)) = some r := by rw [if_neg (show ¬ (false = true) by decide)] at H; exact H
                      clear H
                      have H := H1
                      clear H1
                      obtain ⟨y133, hy133⟩ : ∃ y_ : List Bool, y_ = (x5_3.set ((rd y128 x58_3) : Int).toNat true) := ⟨_, rfl⟩
                      replace H : (if x6_3.length < 17592186044416 then (impl_IsTransitive.l1 k3 l0 l1 y133 (x6_3 ++ [rd y128 x58_3]) x7_2 y128 (y128.length : Int) (wrap64 (x58_3 + 1))) else (none)) = some r := by first | (rw [hy133]; exact H) | exact H
                      have Ny133 := Aside0.mk hy133
                      clear hy133
                      have c45 := cp_ H
                      replace H := ca_ H
                      have LMc45 := Aside0.mk c45
                      clear c45
                      obtain ⟨y134, hy134⟩ : ∃ y_ : List Int, y_ = (x6_3 ++ [rd y128 x58_3]) := ⟨_, rfl⟩
                      replace H : (impl_IsTransitive.l1 k3 l0 l1 y133 y134 x7_2 y128 (y128.length : Int) (wrap64 (x58_3 + 1))) = some r := by first | (rw [hy134]; exact H) | exact H
                      have Ny134 := Aside0.mk hy134
                      clear hy134
                      have H' := Aside0.mk H
                      clear H
                      have p131 : 0 ≤ (x58_3 : Int) := of_decide_eq_true qe_
                      have q131 : x58_3 < (y128.length : Int) := of_decide_eq_true qe_
                      obtain ⟨ad131, e131, hx131_0⟩ := Kd.at_int (Kd.R_reads' HO_56.out).2.2 x58_3 p131 q131
                      cases e131
                      replace p131 := eq_true p131
                      replace q131 := eq_true q131
                      have p132 : 0 ≤ ((rd y128 x58_3) : Int) := of_decide_eq_true qe_
                      have q132 : (rd y128 x58_3) < (x5_3.length : Int) := of_decide_eq_true qe_
                      obtain ⟨ad132, e132, hx132_0⟩ := Kd.at_bool (Kd.R_reads' HO_5.out).2.2 (rd y128 x58_3) p132 q132
                      (try rw [← Nbq42.out] at hx132_0)
                      obtain rfl : (⟨go20, 0, none⟩ : Addr) = ad132 := (by injection e132)
                      (first | simp only [add_plain] at hx132_0 | simp only [add_at] at hx132_0 | simp only [Addr.add, Nat.zero_add] at hx132_0 | skip)
                      replace p132 := eq_true p132
                      replace q132 := eq_true q132
                      have p44 : 0 ≤ ((rd y128 x58_3) : Int) := of_decide_eq_true qe_
                      have q44 : ((rd y128 x58_3) : Int) < ((x5_3.length : Int) : Int) := of_decide_eq_true qe_
                      obtain ⟨hx44_0, hf44_0⟩ := Kd.R_celln false HO_5.out ((rd y128 x58_3) : Int) p44 q44
                      replace p44 := eq_true p44
                      replace q44 := eq_true q44
                      have HP46 := Kd.R_putg HO_5.out ((rd y128 x58_3) : Int) true
                      go_wp2_with (first | ((with_reducible refine gate_store (t := 4) (p := 69) rfl ?_); refine store_event (t := 4) (p := 69) (v := ?vo_w47) (w1 := (wr.setCell ⟨go20, ((rd y128 x58_3) : Int).toNat, none⟩ (.bool true))) ?hg ?ho ?hn ?hr ?_; (case ho => rfl); (case hg => rfl); (case hn => rfl); (case hr => first | (go_simp; done) | (go_simp; rfl)); intro w47 hw; have hg : wr.grownBy w47 (some go20) := (by rw [hw]; exact HP46.2); have hp_ : Kd.R Kd.bool 4 w47 w.heap.size (fun _ => True) (.slice (some ⟨go20, 0, none⟩) x5_3.length co20) y133 := (by rw [hw, Ny133.out]; exact HP46.1); clear HP46; replace HO_6 := Aside0.mk (Kd.R_over' (v := (.slice (some ⟨go20, 0, none⟩) x5_3.length co20)) (rr_ HO_6) (Kd.R_typed HO_5.out) (by decide) hg); replace HO_56 := Aside0.mk (Kd.R_over' (v := (.slice (some ⟨go20, 0, none⟩) x5_3.length co20)) (rr_ HO_56) (Kd.R_typed HO_5.out) (by decide) hg); replace HO_5 := Aside0.mk (hp_); replace HB := Aside0.mk ((by rw [hw]; exact below_set (HB.out) GB20.out : Below w.heap.size w w47)); clear hg hw hp_) | ((with_reducible refine gate_builtin (b := .append) (xs := #[.tmp 70, .tmp 72]) rfl ?_); (try (refine gate_guard (by rfl) ?_; dsimp only)); at_builtin; refine Kd.R_append (Kd.int .i64) (w0 := w) w.heap.size rfl (.tmp 70) (.tmp 72) 23 3 (.int .i64 0) 8 rfl Try.underlying23 info3 rfl (by decide) (by omega) u6 x6_3 (rd y128 x58_3) [.int .i64 (rd y128 x58_3)] (fun k_ => some k_ ≠ (.slice (some ad131) y128.length co36 : Value).ownBlock) (fun _ => False) rfl rfl ?aP (fun _ hk => hk.elim) ?aF ?aO ?aB ?aS ?aL ?_; (case aP => exact rfl); (case aB => exact hB_); (case aF => exact (fun k_ hk => Kd.fresh' (Kd.R_lt (rr_ HO_56)) k_ hk)); (case aO => exact (rr_ HO_6)); (case aS => exact (below_size hB_)); (case aL => have := LMc45.out; omega); intro v135 w48 ho hb hg hat; rw [← Ny134.out] at ho; replace HO_5 := Aside0.mk (Kd.R_over' (rr_ HO_5) (Kd.R_typed (rr_ HO_6)) (by decide) hg); replace HO_56 := Aside0.mk (Kd.R_after (ok := (fun _ => True)) (rw_ (Kd.R_mono HO_56.out (fun _ hk => ⟨trivial, hk⟩))) hg hat); replace HB := Aside0.mk hb; have HO136 := Aside0.mk ho; clear HO_6; clear ho hb hg hat))
                      (try simp only [← hl5_3])
                      go_roundg k3
                      case measure => have := HJ2.out; have := HK2.out; have := HK3.out; omega
                      case rel => exact ⟨(y133), (y134), (wrap64 (x58_3 + 1)), qc_, H', ⟨by have := HJ2.out; have := HK2.out; have := HK3.out; omega⟩, ⟨by (try simp only [hl5_2]); (try simp only [hl5_3]); (with_reducible repeat (first | apply Kd.R_alloc | apply Kd.R_drewN | apply Kd.R_drew)); exact HO_5.out⟩, ⟨by (try simp only [hl5_2]); (try simp only [hl5_3]); (with_reducible repeat (first | apply Kd.R_alloc | apply Kd.R_drewN | apply Kd.R_drew)); exact HO136.out⟩, ⟨by (try simp only [hl5_2]); (try simp only [hl5_3]); (with_reducible repeat (first | apply Kd.R_alloc | apply Kd.R_drewN | apply Kd.R_drew)); exact Kd.R_mono HO_56.out (fun _ hk => hk.2)⟩, ⟨hB_⟩⟩
                  · rw [if_neg c37] at H
                    have c37b0 := decide_eq_false c37
                    clear c37
                    have H' := Aside0.mk H
                    clear H
                    go_wp2
                    (try simp only [← hl5_2, ← hl5_3])
                    go_roundg k3
                    case measure => have := HJ2.out; have := HK2.out; have := HK3.out; omega
                    case rel => exact ⟨(x5_3), (x6_3), (wrap64 (x7_2 + 1)), qc_, H', ⟨by have := HJ2.out; have := HK2.out; have := HK3.out; omega⟩, ⟨by (try simp only [hl5_2]); (try simp only [hl5_3]); (with_reducible repeat (first | apply Kd.R_alloc | apply Kd.R_drewN | apply Kd.R_drew)); exact HO_5.out⟩, ⟨by (try simp only [hl5_2]); (try simp only [hl5_3]); (with_reducible repeat (first | apply Kd.R_alloc | apply Kd.R_drewN | apply Kd.R_drew)); exact Kd.R_mono HO_6.out (fun _ hk => trivial)⟩, ⟨hB_⟩⟩
            · rw [if_neg c27] at H
              have c27b0 := decide_eq_false c27
              clear c27
              obtain rfl := Option.some.inj H
              obtain ⟨Ao49, co49, eo49⟩ := Kd.R_slice HO_6.out
              subst eo49
              go_wp2
              go_ret
              exact ⟨qb_, hB_⟩
end Go.Proofs.Ytoijcallajegfaa.A
end
section
namespace Go.Proofs.Ytoijcallajegfaa.A
open Go.RowKit Go.Proofs.YtoijcallajegfaaW.PrintWords Go.Proofs.YtoijcallajegfaaW.PrintLast Go.Proofs.YtoijcallajegfaaW.PrintMore
attribute [local go_sem] max2_int min2_int max_two min_two max_three min_three max_four min_four
set_option linter.unusedVariables false
set_option linter.unusedSimpArgs false
def impl_SurfaceOk.f (k : Nat) (l0_0 : List Int) (l0_1 : List Int) : Option (Bool) := (impl_IsTransitive.f k l0_0 l0_1).bind fun t138 => (some t138)
theorem impl_SurfaceOk.mono : ∀ a0 a1 k, LeO (impl_SurfaceOk.f k a0 a1) (impl_SurfaceOk.f (k + 1) a0 a1) := by
  intro a0 a1 k
  unfold impl_SurfaceOk.f
  repeat' first|exact impl_IsTransitive.mono _ _ _|exact lo_|refine LeO.ite ?_ ?_|refine LeO.bind ?_ (fun _ => ?_)
set_option maxHeartbeats 8000000 in
set_option maxRecDepth 100000 in
theorem impl_SurfaceOk.calls (k : Nat) (A0_0 : Option Addr) (c0_0 : Nat) (l0_0 : List Int) (A0_1 : Option Addr) (c0_1 : Nat) (l0_1 : List Int) (r : Bool) (w : World) (hr0_0 : Kd.C (Kd.int .i64) w A0_0 l0_0.length l0_0) (hc0_0 : l0_0.length ≤ c0_0) (hr0_1 : Kd.C (Kd.int .i64) w A0_1 l0_1.length l0_1) (hc0_1 : l0_1.length ≤ c0_1) (h : impl_SurfaceOk.f k l0_0 l0_1 = some r) :
    Calls Try.prog 19 #[.agg #[.slice A0_0 l0_0.length c0_0, .slice A0_1 l0_1.length c0_1]] w fun e w' => e = .returned (.bool r) ∧ Below w.heap.size w w' := by
  have hu33 := Try.underlying33
  have HR0_0 := Aside0.mk hr0_0
  have HC0_0 := Aside0.mk hc0_0
  clear hr0_0 hc0_0
  have HR0_1 := Aside0.mk hr0_1
  have HC0_1 := Aside0.mk hc0_1
  clear hr0_1 hc0_1
  have HB := Aside0.mk (Below.refl w.heap.size w)
  have H := h
  unfold impl_SurfaceOk.f at H
  clear h
  obtain ⟨t138, A2, H⟩ := bi_ H
  obtain rfl := Option.some.inj H
  go_enter Try.func19, Try.ntmps19
  go_wp2_with (first | ((with_reducible refine gate_dst (N := 1) rfl ?_); refine bx_ 1 #[.slice A0_0 l0_0.length c0_0, .slice A0_1 l0_1.length c0_1] 33 ?_; intro gb137 hg w3 hbox hb; have BK137 := Aside0.mk hbox; have GW137 := gw_ w hg; have GE137 := GW137; replace HB := b1_ hb; clear hb hbox hg; obtain ⟨hcz4_0, hcz4_1, hfz4_0, hfz4_1⟩ := c2_ BK137) | ((with_reducible refine gate_callee (f := 61) rfl ?_); refine gL_ (some 7) Try.func61 #[.slice A0_0 l0_0.length c0_0, .slice A0_1 l0_1.length c0_1] rfl qa_ ?_; (with_reducible refine (impl_IsTransitive.calls k _ _ l0_0 _ _ l0_1 t138 _ (cb_ HR0_0) HC0_0.out (cb_ HR0_1) HC0_1.out A2.out).mono ?_); rintro e w5 ⟨rfl, hb⟩; refine ⟨_, rfl, ?_⟩; replace BK137 := bb_ BK137 hb; replace HB := b1_ hb; clear hb))
  go_ret
  exact ⟨qb_, hB_⟩
end Go.Proofs.Ytoijcallajegfaa.A
end
section
namespace Go.Proofs.Ytoijcallajegfaa.A
open Go.RowKit Go.Proofs.YtoijcallajegfaaW.PrintWords Go.Proofs.YtoijcallajegfaaW.PrintLast Go.Proofs.YtoijcallajegfaaW.PrintMore
attribute [local go_sem] max2_int min2_int max_two min_two max_three min_three max_four min_four
set_option linter.unusedVariables false
set_option linter.unusedSimpArgs false
def stringslite_IndexByte.f (s : ByteArray) (c : Int) : Option Int := some (Lib.indexByte s.data.toList c.toNat.toUInt8)
set_option maxHeartbeats 8000000 in
set_option maxRecDepth 100000 in
theorem stringslite_IndexByte.calls (a0 : ByteArray) (a1 : Int) (r : Int) (w : World) (h : stringslite_IndexByte.f a0 a1 = some r) :
    Calls Try.prog 151 #[.string a0, .int .u8 a1] w fun e w' => e = .returned (.int .i64 r) ∧ Below w.heap.size w w' := by
  unfold stringslite_IndexByte.f at h
  obtain rfl := Option.some.inj h
  clear h
  go_enter Try.func151, Try.ntmps151
  go_wp2
  rw [run_callFunc_extern Try.func183 (by kernel_rfl) (by kernel_rfl) (by kernel_rfl) (e := Extern.BytealgIndexByte.indexByte) (by kernel_rfl), Lib.run_indexByteString]
  simp only [Result.andThen]
  rw [Oper.upon_value]
  go_wp2
  go_ret
  exact ⟨rfl, by repeat (first | (with_reducible first | exact Below.refl _ _ | apply below_alloc | apply pw_below_drewN | apply below_drew1) | exact Below.refl _ _)⟩
end Go.Proofs.Ytoijcallajegfaa.A
end
section
namespace Go.Proofs.Ytoijcallajegfaa.A
open Go.RowKit Go.Proofs.YtoijcallajegfaaW.PrintWords Go.Proofs.YtoijcallajegfaaW.PrintLast Go.Proofs.YtoijcallajegfaaW.PrintMore
attribute [local go_sem] max2_int min2_int max_two min_two max_three min_three max_four min_four
set_option linter.unusedVariables false
set_option linter.unusedSimpArgs false
def strings_IndexByte.f (a0 : ByteArray) (a1 : Int) : Option (Int) := (stringslite_IndexByte.f a0 a1).bind fun t558 => (some t558)
set_option maxHeartbeats 8000000 in
set_option maxRecDepth 100000 in
theorem strings_IndexByte.calls (a0 : ByteArray) (a1 : Int) (r : Int) (w : World) (h : strings_IndexByte.f a0 a1 = some r) :
    Calls Try.prog 113 #[.string a0, .int .u8 a1] w fun e w' => e = .returned (.int .i64 r) ∧ Below w.heap.size w w' := by
  have HB := Aside0.mk (Below.refl w.heap.size w)
  have H := h
  unfold strings_IndexByte.f at H
  clear h
  obtain ⟨t558, A3, H⟩ := bi_ H
  obtain rfl := Option.some.inj H
  go_enter Try.func113, Try.ntmps113
  go_wp2_with (first | ((with_reducible refine gate_callee (f := 151) rfl ?_); refine gL_ (some 7) Try.func151 #[.string a0, .int .u8 a1] rfl qa_ ?_; (with_reducible refine (stringslite_IndexByte.calls a0 a1 t558 _ A3.out).mono ?_); rintro e w4 ⟨rfl, hb⟩; refine ⟨_, rfl, ?_⟩; replace HB := b1_ hb; clear hb))
  go_ret
  exact ⟨qb_, hB_⟩
end Go.Proofs.Ytoijcallajegfaa.A
end
section
namespace Go.Proofs.Ytoijcallajegfaa.A
open Go.RowKit Go.Proofs.YtoijcallajegfaaW.PrintWords Go.Proofs.YtoijcallajegfaaW.PrintLast Go.Proofs.YtoijcallajegfaaW.PrintMore
attribute [local go_sem] max2_int min2_int max_two min_two max_three min_three max_four min_four
set_option linter.unusedVariables false
set_option linter.unusedSimpArgs false
def impl_WordOk.l0 : Nat → ByteArray → Int → Option (Bool)
  | 0, _, _ => none
  | k + 1, x0, x3 => if x3 < (x0.size : Int) then (if 0 ≤ x3 then ((strings_IndexByte.f (⟨#[84, 116, 83, 115]⟩ : ByteArray) (bt x0 x3)).bind fun t559 => (if t559 < 0 then (some false) else (impl_WordOk.l0 k x0 (wrap64 (x3 + 1))))) else (none)) else (some (decide ((x0.size : Int) ≤ 40)))
def impl_WordOk.f (k : Nat) (a0 : ByteArray) : Option (Bool) := impl_WordOk.l0 k a0 0
theorem impl_WordOk.mono_l : ∀ k, (∀ y0 y1, LeO (impl_WordOk.l0 k y0 y1) (impl_WordOk.l0 (k + 1) y0 y1))
  | 0 => fun _ _ r h => by simp [impl_WordOk.l0] at h
  | k + 1 => by
    have ih0 := impl_WordOk.mono_l k
    · intro y0 y1
      unfold impl_WordOk.l0
      repeat' first|exact ih0 _ _|exact lo_|refine LeO.ite ?_ ?_|refine LeO.bind ?_ (fun _ => ?_)
theorem impl_WordOk.mono : ∀ a0 k, LeO (impl_WordOk.f k a0) (impl_WordOk.f (k + 1) a0) := by
  intro a0 k
  have ih0 := impl_WordOk.mono_l k
  unfold impl_WordOk.f
  repeat' first|exact ih0 _ _|exact lo_|refine LeO.ite ?_ ?_|refine LeO.bind ?_ (fun _ => ?_)
set_option maxHeartbeats 8000000 in
set_option maxRecDepth 100000 in
theorem impl_WordOk.calls (k : Nat) (a0 : ByteArray) (r : Bool) (w : World) (h : impl_WordOk.f k a0 = some r) :
    Calls Try.prog 68 #[.string a0] w fun e w' => e = .returned (.bool r) ∧ Below w.heap.size w w' := by
  have HB := Aside0.mk (Below.refl w.heap.size w)
  have H := h
  unfold impl_WordOk.f at H
  clear h
  have H' := Aside0.mk H
  clear H
  go_enter Try.func68, Try.ntmps68
  go_wp2
  go_loopg [3] k (fun kq v3 w' => ∃ (x3_1 : Int), v3 = .int .i64 x3_1 ∧ Aside0 (impl_WordOk.l0 kq a0 x3_1 = some r) ∧ Aside0 (kq ≤ k) ∧ Aside0 (Below w.heap.size w w'))
  case atStart => exact ⟨(0), qc_, H', ⟨Nat.le_refl _⟩, ⟨hB_⟩⟩
  case round =>
    clear H'
    obtain ⟨x3_1, rfl, HA, HK1, HB⟩ := hrel
    cases gk with
    | zero => exact absurd HA.out (by simp [impl_WordOk.l0])
    | succ k1 =>
      have H := HA.out
      clear HA
      simp only [impl_WordOk.l0] at H
      by_cases c2 : x3_1 < (a0.size : Int)
      · rw [if_pos c2] at H
        have c2b0 := decide_eq_true c2
        clear c2
        have c3 := cp_ H
        replace H := ca_ H
        have c3b0 := decide_eq_true c3
        clear c3
        obtain ⟨t559, A5, H⟩ := bi_ H
        by_cases c6 : t559 < 0
        · rw [if_pos c6] at H
          have c6b0 := decide_eq_true c6
          clear c6
          obtain rfl := Option.some.inj H
          have p4 : 0 ≤ (x3_1 : Int) := of_decide_eq_true qe_
          have q4 : x3_1 < (a0.size : Int) := of_decide_eq_true qe_
          have hx4 := bt_at a0 x3_1
          replace p4 := eq_true p4
          replace q4 := eq_true q4
          go_wp2_with (first | ((with_reducible refine gate_callee (f := 113) rfl ?_); refine gL_ (some 13) Try.func113 #[.string (⟨#[84, 116, 83, 115]⟩ : ByteArray), .int .u8 (bt a0 x3_1)] rfl qa_ ?_; (with_reducible refine (strings_IndexByte.calls (⟨#[84, 116, 83, 115]⟩ : ByteArray) (bt a0 x3_1) t559 _ A5.out).mono ?_); rintro e w7 ⟨rfl, hb⟩; refine ⟨_, rfl, ?_⟩; replace HB := b1_ hb; clear hb))
          go_ret
          exact ⟨qb_, hB_⟩
        · rw [if_neg c6] at H
          have c6b0 := decide_eq_false c6
          clear c6
          have H' := Aside0.mk H
          clear H
          have p4 : 0 ≤ (x3_1 : Int) := of_decide_eq_true qe_
          have q4 : x3_1 < (a0.size : Int) := of_decide_eq_true qe_
          have hx4 := bt_at a0 x3_1
          replace p4 := eq_true p4
          replace q4 := eq_true q4
          go_wp2_with (first | ((with_reducible refine gate_callee (f := 113) rfl ?_); refine gL_ (some 13) Try.func113 #[.string (⟨#[84, 116, 83, 115]⟩ : ByteArray), .int .u8 (bt a0 x3_1)] rfl qa_ ?_; (with_reducible refine (strings_IndexByte.calls (⟨#[84, 116, 83, 115]⟩ : ByteArray) (bt a0 x3_1) t559 _ A5.out).mono ?_); rintro e w8 ⟨rfl, hb⟩; refine ⟨_, rfl, ?_⟩; replace HB := b1_ hb; clear hb))
          go_roundg k1
          case measure => have := HK1.out; omega
          case rel => exact ⟨(wrap64 (x3_1 + 1)), qc_, H', ⟨by have := HK1.out; omega⟩, ⟨hB_⟩⟩
      · rw [if_neg c2] at H
        have c2b0 := decide_eq_false c2
        clear c2
        obtain rfl := Option.some.inj H
        go_wp2
        go_ret
        exact ⟨qb_, hB_⟩
end Go.Proofs.Ytoijcallajegfaa.A
end
section
namespace Go.Proofs.Ytoijcallajegfaa.A
open Go.RowKit Go.Proofs.YtoijcallajegfaaW.PrintWords Go.Proofs.YtoijcallajegfaaW.PrintLast Go.Proofs.YtoijcallajegfaaW.PrintMore
attribute [local go_sem] max2_int min2_int max_two min_two max_three min_three max_four min_four
set_option linter.unusedVariables false
set_option linter.unusedSimpArgs false
def impl_copyInts.f (l0 : List Int) : Option (List Int) := (some (([] : List Int) : List Int)).bind fun y230 => (if y230.length + l0.length < 17592186044416 then (some (y230 ++ l0)) else (none))
set_option maxHeartbeats 8000000 in
set_option maxRecDepth 100000 in
theorem impl_copyInts.calls (A0 : Option Addr) (c0 : Nat) (l0 : List Int) (r : List Int) (w : World) (hr0 : Kd.C (Kd.int .i64) w A0 l0.length l0) (hc0 : l0.length ≤ c0) (h : impl_copyInts.f l0 = some r) :
    Calls Try.prog 100 #[.slice A0 l0.length c0] w fun e w' => ∃ v0_ : Value, e = .returned (v0_) ∧ Kd.R (Kd.int .i64) 3 w' w.heap.size (fun _ => True) v0_ r ∧ Below w.heap.size w w' := by
  have HR0 := Aside0.mk hr0
  have HC0 := Aside0.mk hc0
  clear hr0 hc0
  have HB := Aside0.mk (Below.refl w.heap.size w)
  have H := h
  unfold impl_copyInts.f at H
  clear h
  obtain ⟨y230, hy230⟩ : ∃ y_ : List Int, y_ = (([] : List Int)) := ⟨_, rfl⟩
  replace H : (if y230.length + l0.length < 17592186044416 then (some (y230 ++ l0)) else (none)) = some r := by first | (rw [hy230]; exact H) | exact H
  have Ny230 := Aside0.mk hy230
  clear hy230
  have c2 := cp_ H
  replace H := ca_ H
  have LMc2 := Aside0.mk c2
  clear c2
  obtain ⟨y233, hy233⟩ : ∃ y_ : List Int, y_ = (y230 ++ l0) := ⟨_, rfl⟩
  replace H : (some y233) = some r := by first | (rw [hy233]; exact H) | exact H
  have Ny233 := Aside0.mk hy233
  clear hy233
  obtain rfl := Option.some.inj H
  go_enter Try.func100, Try.ntmps100
  go_wp2_with (first | ((with_reducible refine gate_dst (N := 3) rfl ?_); refine Kd.R_lit (Kd.int .i64) _ 3 ?hg (N := 3) ?hd (xs := ([] : List Int)) (inner := []) (ok := fun _ => True) (okp := fun _ => True) ?hr ?hp (fun _ hk => hk) trivial (Below.refl _ _) (Nat.le_refl _) (by simp) ?_; (case hd => rfl); (case hg => rfl); (case hr => first | (go_simp; done) | (go_simp; rfl)); (case hp => exact (Reps.none _ _)); intro v231 w3 ho4 hb hg_ hnew_; clear hg_ hnew_; (first | rw [← Ny230.out] at ho4 | (simp only [Int.reduceToNat] at ho4; rw [← Ny230.out] at ho4)); have HO232 := rl_ w ho4; replace HB := b1_ hb; clear hb ho4) | ((with_reducible refine gate_builtin (b := .append) (xs := #[.tmp 3, .tmp 4]) rfl ?_); at_builtin; refine Kd.R_append_rows (Kd.int .i64) (w0 := w) w.heap.size rfl (.tmp 3) (.tmp 4) 23 3 (.int .i64 0) 8 rfl Try.underlying23 info3 rfl (by decide) (by omega) v231 y230 l0 _ _ _ (fun _ => True) (fun _ => False) rfl rfl ?aO ?aR (fun _ _ h => h) (fun _ h => h.elim) ?aF ?aB ?aS ?aL ?_; (case aR => exact cb_ HR0); (case aB => exact hB_); (case aF => exact (fun _ _ => trivial)); (case aO => exact (rr_ HO232)); (case aS => exact (below_size hB_)); (case aL => have := LMc2.out; omega); intro v234 w5 ho hb hg hat; rw [← Ny233.out] at ho; replace HB := Aside0.mk hb; have HO235 := Aside0.mk ho; clear HO232; clear ho hb hg hat))
  go_ret
  exact ⟨_, qb_, (rr_ HO235), hB_⟩
end Go.Proofs.Ytoijcallajegfaa.A
end
section
namespace Go.Proofs.Ytoijcallajegfaa.A
open Go.RowKit Go.Proofs.YtoijcallajegfaaW.PrintWords Go.Proofs.YtoijcallajegfaaW.PrintLast Go.Proofs.YtoijcallajegfaaW.PrintMore
attribute [local go_sem] max2_int min2_int max_two min_two max_three min_three max_four min_four
set_option linter.unusedVariables false
set_option linter.unusedSimpArgs false
def impl_copySurface.f (l0_0 : List Int) (l0_1 : List Int) : Option (List Int × List Int) := (impl_copyInts.f l0_0).bind fun t562 => ((impl_copyInts.f l0_1).bind fun t565 => (some (t562, t565)))
def impl_copySurface.T1 : Bool × List (List Nat × List Nat) := (true, [([], []), ([0], [0]), ([1], [1]), ([], []), ([3], [3]), ([4, 2], [4]), ([2, 5], [2, 5]), ([6, 5, 0, 1, 2, 3, 4, 5, 6], [6])])
def impl_copySurface.B1 : List Nat := [0, 1, 3, 0, 8, 31, 63, 127]
theorem impl_copySurface.tab1 : rtab .any (opsOf Try.f69 1) = impl_copySurface.T1 := by kernel_rfl
theorem impl_copySurface.bits1 : waitsOk impl_copySurface.T1.2 impl_copySurface.B1 = true := by kernel_rfl
set_option maxHeartbeats 8000000 in
set_option maxRecDepth 100000 in
theorem impl_copySurface.calls (A0_0 : Option Addr) (c0_0 : Nat) (l0_0 : List Int) (A0_1 : Option Addr) (c0_1 : Nat) (l0_1 : List Int) (r1 : List Int) (r2 : List Int) (w : World) (hr0_0 : Kd.C (Kd.int .i64) w A0_0 l0_0.length l0_0) (hc0_0 : l0_0.length ≤ c0_0) (hr0_1 : Kd.C (Kd.int .i64) w A0_1 l0_1.length l0_1) (hc0_1 : l0_1.length ≤ c0_1) (h : impl_copySurface.f l0_0 l0_1 = some (r1, r2)) :
    Calls Try.prog 69 #[.agg #[.slice A0_0 l0_0.length c0_0, .slice A0_1 l0_1.length c0_1]] w fun e w' => ∃ v0_ v1_ : Value, e = .returned (.agg #[v0_, v1_]) ∧ Kd.R (Kd.int .i64) 3 w' w.heap.size (fun k_ => some k_ ≠ (v1_ : Value).ownBlock) v0_ r1 ∧ Kd.R (Kd.int .i64) 3 w' w.heap.size (fun k_ => some k_ ≠ (v0_ : Value).ownBlock) v1_ r2 ∧ Below w.heap.size w w' := by
  have hu33 := Try.underlying33
  have HR0_0 := Aside0.mk hr0_0
  have HC0_0 := Aside0.mk hc0_0
  clear hr0_0 hc0_0
  have HR0_1 := Aside0.mk hr0_1
  have HC0_1 := Aside0.mk hc0_1
  clear hr0_1 hc0_1
  have HB := Aside0.mk (Below.refl w.heap.size w)
  have H := h
  unfold impl_copySurface.f at H
  clear h
  obtain ⟨t562, A2, H⟩ := bi_ H
  obtain ⟨t565, A3, H⟩ := bi_ H
  simp only [Option.some.injEq, Prod.mk.injEq] at H
  obtain ⟨rfl, rfl⟩ := H
  go_enter Try.func69, Try.ntmps69
  try go_wp2_with (first | ((with_reducible refine gate_dst (N := 1) rfl ?_); refine bx_ 1 #[.slice A0_0 l0_0.length c0_0, .slice A0_1 l0_1.length c0_1] 33 ?_; intro gb560 hg w4 hbox hb; have BK560 := Aside0.mk hbox; have GW560 := gw_ w hg; have GE560 := GW560; replace HB := b1_ hb; clear hb hbox hg) | ((with_reducible refine gate_dst (N := 2) rfl ?_); refine bx_ 2 #[.slice none 0 0, .slice none 0 0] 33 ?_; intro gb561 hg w5 hbox hb; have BK561 := Aside0.mk hbox; have GW561 := gw_ w hg; have GE561 := GW561; replace HB := b1_ hb; have NB560_561 := gN_ BK560 hg; have NB561_560 := gP_ BK560 hg; replace BK560 := bb_ BK560 hb; clear hb hbox hg))
  replace BK560 := Aside0.mk (blk_drew BK560.out)
  replace BK561 := Aside0.mk (blk_drew BK561.out)
  replace HB := Aside0.mk (below_drew1 HB.out)
  refine start_ (n := 8) (S := fun w' => w'.cell? ⟨gb560, 0, none⟩ = some (.slice A0_0 l0_0.length c0_0) ∧ w'.cell? ⟨gb560, 1, none⟩ = some (.slice A0_1 l0_1.length c0_1)) (ds := []) (bl_ 8 0) (by kernel_rfl) rfl (by kernel_rfl) ⟨cz0_ BK560, cz1_ BK560⟩ (fun hHeld => ?_); refine with_tabW impl_copySurface.tab1 impl_copySurface.bits1 (fun HT_ HW_ => ?_)
  generalize w5.drew = w6 at BK560 BK561 HB hHeld ⊢
  refine pu_ 0 (some 3) (bl_ 8 1) HT_ ?_
  refine pu_ 3 (some 6) (bl_ 8 9) HT_ ?_
  refine ta_ 1 (some 4) (bl_ 8 11) HT_ HW_ hHeld ?_
  refine ta_ 4 (some 7) (bl_ 8 27) HT_ HW_ hHeld ?_
  refine on_ 2 (some 5) (bl_ 8 31) HT_ (fun K hK => ?_)
  refine gO_ Try.func100 #[.slice A0_0 l0_0.length c0_0] (by rfl) rfl rfl qa_ ?_
  with_reducible refine (impl_copyInts.calls _ _ l0_0 t562 _ (cb_ HR0_0) HC0_0.out A2.out).mono ?_
  rintro e w7 ⟨v563, rfl, ho0, hb⟩
  refine ⟨_, rfl, ?_⟩
  have HO564 := rl_ w ho0
  replace BK560 := bb_ BK560 hb
  replace BK561 := bb_ BK561 hb
  replace HB := b1_ hb
  clear hb ho0
  refine hK.out _ _ ⟨cz0_ BK560, cz1_ BK560⟩ (fun hHeld => ?_)
  clear hK K
  refine no_ (some 5) ?_
  refine on_ 5 (some 8) (bl_ 8 63) HT_ (fun K hK => ?_)
  refine gO_ Try.func100 #[.slice A0_1 l0_1.length c0_1] (by rfl) rfl rfl qa_ ?_
  with_reducible refine (impl_copyInts.calls _ _ l0_1 t565 _ (cb_ HR0_1) HC0_1.out A3.out).mono ?_
  rintro e w8 ⟨v566, rfl, ho0, hb⟩
  refine ⟨_, rfl, ?_⟩
  have HO567 := Aside0.mk (Kd.R_lower (Kd.R_new' ho0 (Kd.R_lt (rr_ HO564))) (below_size hB_))
  replace HO564 := Aside0.mk (Kd.R_elder' (rr_ HO564) (Kd.R_base ho0) hb)
  replace BK560 := bb_ BK560 hb
  replace BK561 := bb_ BK561 hb
  replace HB := b1_ hb
  clear hb ho0
  obtain ⟨Ao9, co9, eo9⟩ := Kd.R_slice HO567.out
  (first | subst eo9 | (injection eo9 with f1_ f2_ f3_; have f4_ := f1_.symm; have f5_ := f3_.symm; clear f1_ f2_ f3_; subst f4_; subst f5_))
  obtain ⟨Ao10, co10, eo10⟩ := Kd.R_slice HO564.out
  (first | subst eo10 | (injection eo10 with f1_ f2_ f3_; have f4_ := f1_.symm; have f5_ := f3_.symm; clear f1_ f2_ f3_; subst f4_; subst f5_))
  refine hK.out _ _ ⟨cz0_ BK560, cz1_ BK560⟩ (fun hHeld => ?_)
  clear hK K
  refine no_ (some 8) ?_
  refine pu_ 6 (some 9) (bl_ 8 127) HT_ ?_
  refine on_ 7 (none) (bl_ 8 255) HT_ (fun K hK => ?_)
  have hs11 : w8.cell? ⟨gb561, 0, none⟩ = some (.slice none 0 0) := cz0_ BK561
  have hfs11 := blk_frozen BK561.out 0
  have hns11_0 := NB560_561.out
  have hms11_0 := NB561_560.out
  have hs12 : w8.cell? ⟨gb561, 1, none⟩ = some (.slice none 0 0) := cz1_ BK561
  have hfs12 := blk_frozen BK561.out 1
  have hns12_0 := NB560_561.out
  have hms12_0 := NB561_560.out
  refine skip_ (w1 := ?_) (by rfl) rfl ?_ ?_
  rotate_left
  · go_simp
    rfl
  refine hK.out _ _ ⟨((cell_far (p := ⟨gb561, _, none⟩) NB560_561.out _).trans (((cell_far (p := ⟨gb561, _, none⟩) NB560_561.out _).trans (hHeld.1)))), ((cell_far (p := ⟨gb561, _, none⟩) NB560_561.out _).trans (((cell_far (p := ⟨gb561, _, none⟩) NB560_561.out _).trans (hHeld.2))))⟩ (fun hHeld => ?_)
  clear hK K
  refine done_ (done_of HT_.out (by kernel_rfl)) ?_
  try go_wp2
  refine bodyPost_ret (results_cell_row rfl _ _ gb561 33 #[.slice Ao10 t562.length co10, .slice Ao9 t565.length co9] (0, 0) _ rfl qp_ Try.underlying33 rfl (by kernel_rfl)) rfl ?_
  exact ⟨_, _, qb_, (rw_ (Kd.R_mono (fa_ HO564 BK561) (fun _ hk => hk.2))), (rw_ (Kd.R_mono (fa_ HO567 BK561) (fun _ hk => hk.2))), hB_⟩
end Go.Proofs.Ytoijcallajegfaa.A
end
section
namespace Go.Proofs.Ytoijcallajegfaa.A
open Go.RowKit Go.Proofs.YtoijcallajegfaaW.PrintWords Go.Proofs.YtoijcallajegfaaW.PrintLast Go.Proofs.YtoijcallajegfaaW.PrintMore
attribute [local go_sem] max2_int min2_int max_two min_two max_three min_three max_four min_four
set_option linter.unusedVariables false
set_option linter.unusedSimpArgs false
def impl_InversePerm.l0 : Nat → List Int → List Int → Int → Int → Option (List Int)
  | 0, _, _, _, _ => none
  | k + 1, x3, x12, x13, x14 => if x14 < x13 then (if 0 ≤ x14 then (if x14 < (x12.length : Int) then (if 0 ≤ (rd x12 x14) then (if (rd x12 x14) < (x3.length : Int) then (impl_InversePerm.l0 k (x3.set ((rd x12 x14) : Int).toNat x14) x12 x13 (wrap64 (x14 + 1))) else (none)) else (none)) else (none)) else (none)) else (some x3)
def impl_InversePerm.f (k : Nat) (l0 : List Int) : Option (List Int) := (impl_PermOk.f k l0).bind fun t291 => (if t291 = true then (if 0 ≤ (l0.length : Int) then (if ((l0.length : Int) : Int).toNat ≤ 35184372088832 then (impl_InversePerm.l0 k (List.replicate ((l0.length : Int) : Int).toNat 0) l0 (l0.length : Int) 0) else (none)) else (none)) else (some ([] : List Int)))
theorem impl_InversePerm.mono_l : ∀ k, (∀ y0 y1 y2 y3, LeO (impl_InversePerm.l0 k y0 y1 y2 y3) (impl_InversePerm.l0 (k + 1) y0 y1 y2 y3))
  | 0 => fun _ _ _ _ r h => by simp [impl_InversePerm.l0] at h
  | k + 1 => by
    have ih0 := impl_InversePerm.mono_l k
    · intro y0 y1 y2 y3
      unfold impl_InversePerm.l0
      repeat' first|exact ih0 _ _ _ _|exact impl_PermOk.mono _ _|exact lo_|refine LeO.ite ?_ ?_|refine LeO.bind ?_ (fun _ => ?_)
theorem impl_InversePerm.mono : ∀ a0 k, LeO (impl_InversePerm.f k a0) (impl_InversePerm.f (k + 1) a0) := by
  intro a0 k
  have ih0 := impl_InversePerm.mono_l k
  unfold impl_InversePerm.f
  repeat' first|exact ih0 _ _ _ _|exact impl_PermOk.mono _ _|exact lo_|refine LeO.ite ?_ ?_|refine LeO.bind ?_ (fun _ => ?_)
set_option maxHeartbeats 8000000 in
set_option maxRecDepth 100000 in
theorem impl_InversePerm.calls (k : Nat) (A0 : Option Addr) (c0 : Nat) (l0 : List Int) (r : List Int) (w : World) (hr0 : Kd.C (Kd.int .i64) w A0 l0.length l0) (hc0 : l0.length ≤ c0) (h : impl_InversePerm.f k l0 = some r) :
    Calls Try.prog 122 #[.slice A0 l0.length c0] w fun e w' => ∃ v0_ : Value, e = .returned (v0_) ∧ Kd.R (Kd.int .i64) 3 w' w.heap.size (fun _ => True) v0_ r ∧ Below w.heap.size w w' := by
  have HR0 := Aside0.mk hr0
  have HC0 := Aside0.mk hc0
  clear hr0 hc0
  have HB := Aside0.mk (Below.refl w.heap.size w)
  have H := h
  unfold impl_InversePerm.f at H
  clear h
  obtain ⟨t291, A2, H⟩ := bi_ H
  by_cases c3 : t291 = true
  · subst c3
    rw [if_pos rfl] at H
    have c4 := cp_ H
    replace H := ca_ H
    have c4b0 := eq_true c4
    have c4b1 := decide_eq_true c4
    clear c4
    have c5 := cp_ H
    replace H := ca_ H
    have c5b0 := eq_true c5
    have c5b1 := decide_eq_true c5
    clear c5
    obtain ⟨y292, hy292⟩ : ∃ y_ : List Int, y_ = (List.replicate ((l0.length : Int) : Int).toNat 0) := ⟨_, rfl⟩
    replace H : (impl_InversePerm.l0 k y292 l0 (l0.length : Int) 0) = some r := by first | (rw [hy292]; exact H) | exact H
    have Ny292 := Aside0.mk hy292
    clear hy292
    have H' := Aside0.mk H
    clear H
    go_enter Try.func122, Try.ntmps122
    go_wp2_with (first | ((with_reducible refine gate_callee (f := 109) rfl ?_); refine gL_ (some 7) Try.func109 #[.slice A0 l0.length c0] rfl qa_ ?_; (with_reducible refine (impl_PermOk.calls k _ _ l0 true _ (cc_ HR0) HC0.out A2.out).mono ?_); rintro e w6 ⟨rfl, hb⟩; refine ⟨_, rfl, ?_⟩; replace HB := b1_ hb; clear hb) | ((with_reducible refine gate_dst (N := 11) rfl ?_); refine Kd.R_make (Kd.int .i64) _ 3 rfl (N := 11) rfl 23 _ _ rfl (l0.length : Int) rfl rfl Try.underlying23 (.int .i64 0) 8 info3 rfl (by decide) (by omega) 0 (ok := fun _ => True) (okp := fun _ => True) rfl (fun _ hk => hk) trivial (of_decide_eq_true qe_) (Nat.le_trans (Nat.mul_le_mul_right _ (of_decide_eq_true qe_ : (l0.length : Int).toNat ≤ 35184372088832)) (by omega)) (Below.refl _ _) (Nat.le_refl _) ?_; intro v293 w7 ho8 hb hg_ hnew_; clear hg_ hnew_; (first | rw [← Ny292.out] at ho8 | (simp only [Int.reduceToNat] at ho8; rw [← Ny292.out] at ho8)); have HO294 := rl_ w ho8; replace HB := b1_ hb; clear hb ho8))
    go_loopg [14] k (fun kq v14 w' => ∃ (x3_1 : List Int) (x14_1 : Int), v14 = .int .i64 x14_1 ∧ Aside0 (impl_InversePerm.l0 kq x3_1 l0 (l0.length : Int) x14_1 = some r) ∧ Aside0 (kq ≤ k) ∧ Aside0 (Kd.R (Kd.int .i64) 3 w' w.heap.size (fun _ => True) v293 x3_1) ∧ Aside0 (Below w.heap.size w w'))
    case atStart => exact ⟨(y292), (0), qc_, H', ⟨Nat.le_refl _⟩, ⟨(rr_ HO294)⟩, ⟨hB_⟩⟩
    case round =>
      clear H'
      obtain ⟨x3_1, x14_1, rfl, HA, HK1, HO_3, HB⟩ := hrel
      cases gk with
      | zero => exact absurd HA.out (by simp [impl_InversePerm.l0])
      | succ k1 =>
        have H := HA.out
        clear HA
        simp only [impl_InversePerm.l0] at H
        by_cases c9 : x14_1 < (l0.length : Int)
        · rw [if_pos c9] at H
          have c9b0 := decide_eq_true c9
          clear c9
          have c10 := cp_ H
          replace H := ca_ H
          have c10b0 := decide_eq_true c10
          clear c10
          have c11 := cp_ H
          replace H := ca_ H
          have c11b0 := decide_eq_true c11
          clear c11
          have c12 := cp_ H
          replace H := ca_ H
          have c12b0 := decide_eq_true c12
          clear c12
          have c13 := cp_ H
          replace H := ca_ H
          have c13b0 := decide_eq_true c13
          clear c13
          obtain ⟨y296, hy296⟩ : ∃ y_ : List Int, y_ = (x3_1.set ((rd l0 x14_1) : Int).toNat x14_1) := ⟨_, rfl⟩
          replace H : (impl_InversePerm.l0 k1 y296 l0 (l0.length : Int) (wrap64 (x14_1 + 1))) = some r := by first | (rw [hy296]; exact H) | exact H
          have Ny296 := Aside0.mk hy296
          clear hy296
          have H' := Aside0.mk H
          clear H
          have p295 : 0 ≤ (x14_1 : Int) := of_decide_eq_true qe_
          have q295 : x14_1 < (l0.length : Int) := of_decide_eq_true qe_
          obtain ⟨ad295, e295, hx295_0⟩ := Kd.at_int HR0.out x14_1 p295 q295
          cases e295
          replace hx295_0 := (HB.out.cell (World.block_lt_of_cell? w _ hx295_0)).trans hx295_0
          replace p295 := eq_true p295
          replace q295 := eq_true q295
          have p14 : 0 ≤ ((rd l0 x14_1) : Int) := of_decide_eq_true qe_
          have q14 : ((rd l0 x14_1) : Int) < ((x3_1.length : Int) : Int) := of_decide_eq_true qe_
          obtain ⟨go14, co14, eo14, gb14, gl14, cl14, HG14⟩ := Kd.R_form HO_3.out (by omega)
          (first | cases eo14 | (injection eo14 with ea_ en_ ec_; (first | subst ea_ | (injection ea_ with ea_; subst ea_)); subst ec_; clear en_))
          have GB14 := Aside0.mk gb14
          have GG14 := Aside0.mk HG14
          clear gb14 gl14 HG14
          obtain ⟨hx14_0, hf14_0⟩ := Kd.R_celln 0 HO_3.out ((rd l0 x14_1) : Int) p14 q14
          replace p14 := eq_true p14
          replace q14 := eq_true q14
          have HP15 := Kd.R_putg HO_3.out ((rd l0 x14_1) : Int) x14_1
          go_wp2_with (first | ((with_reducible refine gate_store (t := 3) (p := 22) rfl ?_); refine store_event (t := 3) (p := 22) (v := ?vo_w16) (w1 := (wr.setCell ⟨go14, ((rd l0 x14_1) : Int).toNat, none⟩ (.int .i64 x14_1))) ?hg ?ho ?hn ?hr ?_; (case ho => rfl); (case hg => rfl); (case hn => rfl); (case hr => first | (go_simp; done) | (go_simp; rfl)); intro w16 hw; have hg : wr.grownBy w16 (some go14) := (by rw [hw]; exact HP15.2); have hp_ : Kd.R (Kd.int .i64) 3 w16 w.heap.size (fun _ => True) (.slice (some ⟨go14, 0, none⟩) x3_1.length co14) y296 := (by rw [hw, Ny296.out]; exact HP15.1); clear HP15; replace HO_3 := Aside0.mk (hp_); replace HB := Aside0.mk ((by rw [hw]; exact below_set (HB.out) GB14.out : Below w.heap.size w w16)); clear hg hw hp_))
          go_roundg k1
          case measure => have := HK1.out; omega
          case rel => exact ⟨(y296), (wrap64 (x14_1 + 1)), qc_, H', ⟨by have := HK1.out; omega⟩, ⟨(rr_ HO_3)⟩, ⟨hB_⟩⟩
        · rw [if_neg c9] at H
          have c9b0 := decide_eq_false c9
          clear c9
          obtain rfl := Option.some.inj H
          go_wp2
          go_ret
          exact ⟨_, qb_, (rr_ HO_3), hB_⟩
  · replace c3 := Bool.eq_false_iff.mpr c3
    subst c3
    have H1 : (some ([] : List Int)) = some r := by rw [if_neg (show ¬ (false = true) by decide)] at H; exact H
    clear H
    have H := H1
    clear H1
    obtain rfl := Option.some.inj H
    go_enter Try.func122, Try.ntmps122
    go_wp2_with (first | ((with_reducible refine gate_callee (f := 109) rfl ?_); refine gL_ (some 7) Try.func109 #[.slice A0 l0.length c0] rfl qa_ ?_; (with_reducible refine (impl_PermOk.calls k _ _ l0 false _ (cc_ HR0) HC0.out A2.out).mono ?_); rintro e w17 ⟨rfl, hb⟩; refine ⟨_, rfl, ?_⟩; replace HB := b1_ hb; clear hb))
    go_ret
    exact ⟨_, qb_, by first | exact Kd.R_nil _ _ _ _ _ | exact Kd.N_nil _ _ _ _ _ | exact Kd.V_nil _ _ _ _ _ | exact Kd.Q_nil _ _ _ _ _ | exact Kd.S_nil _ _ _ _ _, hB_⟩
end Go.Proofs.Ytoijcallajegfaa.A
end
section
namespace Go.Proofs.Ytoijcallajegfaa.A
open Go.RowKit Go.Proofs.YtoijcallajegfaaW.PrintWords Go.Proofs.YtoijcallajegfaaW.PrintLast Go.Proofs.YtoijcallajegfaaW.PrintMore
attribute [local go_sem] max2_int min2_int max_two min_two max_three min_three max_four min_four
set_option linter.unusedVariables false
set_option linter.unusedSimpArgs false
mutual
def impl_ThenPerm.j0 : Nat → List Int → List Int → Bool → Option (List Int)
  | 0, _, _, _ => none
  | k + 1, x0, x1, x22 => if x22 = true then (some ([] : List Int)) else (if 0 ≤ (x0.length : Int) then (if ((x0.length : Int) : Int).toNat ≤ 35184372088832 then (impl_ThenPerm.l0 k x1 (List.replicate ((x0.length : Int) : Int).toNat 0) x0 (x0.length : Int) 0) else (none)) else (none))
def impl_ThenPerm.l0 : Nat → List Int → List Int → List Int → Int → Int → Option (List Int)
  | 0, _, _, _, _, _ => none
  | k + 1, x1, x5, x26, x27, x28 => if x28 < x27 then (if 0 ≤ x28 then (if x28 < (x26.length : Int) then (if 0 ≤ (rd x26 x28) then (if (rd x26 x28) < (x1.length : Int) then (if x28 < (x5.length : Int) then (impl_ThenPerm.l0 k x1 (x5.set (x28 : Int).toNat (rd x1 (rd x26 x28))) x26 x27 (wrap64 (x28 + 1))) else (none)) else (none)) else (none)) else (none)) else (none)) else (some x5)
end
def impl_ThenPerm.f (k : Nat) (l0 : List Int) (l1 : List Int) : Option (List Int) := (impl_PermOk.f k l0).bind fun t297 => (if t297 = true then ((impl_PermOk.f k l1).bind fun t298 => (if t298 = true then (impl_ThenPerm.j0 k l0 l1 ((l0.length : Int) != (l1.length : Int))) else (impl_ThenPerm.j0 k l0 l1 true))) else (impl_ThenPerm.j0 k l0 l1 true))
theorem impl_ThenPerm.mono_l : ∀ k, (∀ y0 y1 y2, LeO (impl_ThenPerm.j0 k y0 y1 y2) (impl_ThenPerm.j0 (k + 1) y0 y1 y2)) ∧ (∀ y0 y1 y2 y3 y4, LeO (impl_ThenPerm.l0 k y0 y1 y2 y3 y4) (impl_ThenPerm.l0 (k + 1) y0 y1 y2 y3 y4))
  | 0 => ⟨fun _ _ _ r h => by simp [impl_ThenPerm.j0] at h, fun _ _ _ _ _ r h => by simp [impl_ThenPerm.l0] at h⟩
  | k + 1 => by
    obtain ⟨ih0, ih1⟩ := impl_ThenPerm.mono_l k
    refine ⟨?_, ?_⟩
    · intro y0 y1 y2
      unfold impl_ThenPerm.j0
      repeat' first|exact ih0 _ _ _|exact ih1 _ _ _ _ _|exact impl_PermOk.mono _ _|exact lo_|refine LeO.ite ?_ ?_|refine LeO.bind ?_ (fun _ => ?_)
    · intro y0 y1 y2 y3 y4
      unfold impl_ThenPerm.l0
      repeat' first|exact ih0 _ _ _|exact ih1 _ _ _ _ _|exact impl_PermOk.mono _ _|exact lo_|refine LeO.ite ?_ ?_|refine LeO.bind ?_ (fun _ => ?_)
theorem impl_ThenPerm.mono : ∀ a0 a1 k, LeO (impl_ThenPerm.f k a0 a1) (impl_ThenPerm.f (k + 1) a0 a1) := by
  intro a0 a1 k
  obtain ⟨ih0, ih1⟩ := impl_ThenPerm.mono_l k
  unfold impl_ThenPerm.f
  repeat' first|exact ih0 _ _ _|exact ih1 _ _ _ _ _|exact impl_PermOk.mono _ _|exact lo_|refine LeO.ite ?_ ?_|refine LeO.bind ?_ (fun _ => ?_)
set_option maxHeartbeats 8000000 in
set_option maxRecDepth 100000 in
theorem impl_ThenPerm.calls (k : Nat) (A0 : Option Addr) (c0 : Nat) (l0 : List Int) (A1 : Option Addr) (c1 : Nat) (l1 : List Int) (r : List Int) (w : World) (hr0 : Kd.C (Kd.int .i64) w A0 l0.length l0) (hc0 : l0.length ≤ c0) (hr1 : Kd.C (Kd.int .i64) w A1 l1.length l1) (hc1 : l1.length ≤ c1) (h : impl_ThenPerm.f k l0 l1 = some r) :
    Calls Try.prog 152 #[.slice A0 l0.length c0, .slice A1 l1.length c1] w fun e w' => ∃ v0_ : Value, e = .returned (v0_) ∧ Kd.R (Kd.int .i64) 3 w' w.heap.size (fun _ => True) v0_ r ∧ Below w.heap.size w w' := by
  have HR0 := Aside0.mk hr0
  have HC0 := Aside0.mk hc0
  clear hr0 hc0
  have HR1 := Aside0.mk hr1
  have HC1 := Aside0.mk hc1
  clear hr1 hc1
  have HB := Aside0.mk (Below.refl w.heap.size w)
  have H := h
  unfold impl_ThenPerm.f at H
  clear h
  have HC3 := Aside0.mk H
  clear H
  go_enter Try.func152, Try.ntmps152
  go_upto_region 1 with (fail)
  go_cut [22] (fun v22 wc => ∃ (kq : Nat) (x22_2 : Bool), v22 = .bool x22_2 ∧ Aside0 (impl_ThenPerm.j0 kq l0 l1 x22_2 = some r) ∧ Aside0 (kq ≤ k) ∧ Aside0 (Below w.heap.size w wc))
  case first =>
    have H := HC3.out
    clear HC3
    obtain ⟨t297, A4, H⟩ := bi_ H
    by_cases c5 : t297 = true
    · subst c5
      rw [if_pos rfl] at H
      obtain ⟨t298, A6, H⟩ := bi_ H
      by_cases c7 : t298 = true
      · subst c7
        rw [if_pos rfl] at H
        have H' := Aside0.mk H
        clear H
        go_wp2_with (first | ((with_reducible refine gate_callee (f := 109) rfl ?_); refine gL_ (some 9) Try.func109 #[.slice A0 l0.length c0] rfl qa_ ?_; (with_reducible refine (impl_PermOk.calls k _ _ l0 true _ (cb_ HR0) HC0.out A4.out).mono ?_); rintro e w8 ⟨rfl, hb⟩; refine ⟨_, rfl, ?_⟩; replace HB := b1_ hb; clear hb) | (go_at_call 109; (with_reducible refine (impl_PermOk.calls k _ _ l1 true _ (cb_ HR1) HC1.out A6.out).mono ?_); rintro e w9 ⟨rfl, hb⟩; replace HB := b1_ hb; clear hb))
        go_meet
        case rel => exact ⟨_, (((l0.length : Int) != (l1.length : Int))), qc_, H', ⟨qd_⟩, ⟨hB_⟩⟩
      · replace c7 := Bool.eq_false_iff.mpr c7
        subst c7
        have H1 : (impl_ThenPerm.j0 k l0 l1 true) = some r := by rw [if_neg (show ¬ (false = true) by decide)] at H; exact H
        clear H
        have H := H1
        clear H1
        have H' := Aside0.mk H
        clear H
        go_wp2_with (first | ((with_reducible refine gate_callee (f := 109) rfl ?_); refine gL_ (some 9) Try.func109 #[.slice A0 l0.length c0] rfl qa_ ?_; (with_reducible refine (impl_PermOk.calls k _ _ l0 true _ (cb_ HR0) HC0.out A4.out).mono ?_); rintro e w10 ⟨rfl, hb⟩; refine ⟨_, rfl, ?_⟩; replace HB := b1_ hb; clear hb) | (go_at_call 109; (with_reducible refine (impl_PermOk.calls k _ _ l1 false _ (cb_ HR1) HC1.out A6.out).mono ?_); rintro e w11 ⟨rfl, hb⟩; replace HB := b1_ hb; clear hb))
        go_meet
        case rel => exact ⟨_, (true), qc_, H', ⟨qd_⟩, ⟨hB_⟩⟩
    · replace c5 := Bool.eq_false_iff.mpr c5
      subst c5
      have H1 : (impl_ThenPerm.j0 k l0 l1 true) = some r := by rw [if_neg (show ¬ (false = true) by decide)] at H; exact H
      clear H
      have H := H1
      clear H1
      have H' := Aside0.mk H
      clear H
      go_wp2_with (first | ((with_reducible refine gate_callee (f := 109) rfl ?_); refine gL_ (some 9) Try.func109 #[.slice A0 l0.length c0] rfl qa_ ?_; (with_reducible refine (impl_PermOk.calls k _ _ l0 false _ (cb_ HR0) HC0.out A4.out).mono ?_); rintro e w12 ⟨rfl, hb⟩; refine ⟨_, rfl, ?_⟩; replace HB := b1_ hb; clear hb))
      go_meet
      case rel => exact ⟨_, (true), qc_, H', ⟨qd_⟩, ⟨hB_⟩⟩
  case rest =>
    clear HC3
    obtain ⟨kq, x22_2, rfl, HA, HJ2, HB⟩ := hcut
    cases kq with
    | zero => exact absurd HA.out (by simp [impl_ThenPerm.j0])
    | succ kj2 =>
      have H := HA.out
      clear HA
      simp only [impl_ThenPerm.j0] at H
      by_cases c13 : x22_2 = true
      · subst c13
        rw [if_pos rfl] at H
        obtain rfl := Option.some.inj H
        go_wp2
        go_ret
        exact ⟨_, qb_, by first | exact Kd.R_nil _ _ _ _ _ | exact Kd.N_nil _ _ _ _ _ | exact Kd.V_nil _ _ _ _ _ | exact Kd.Q_nil _ _ _ _ _ | exact Kd.S_nil _ _ _ _ _, hB_⟩
      · replace c13 := Bool.eq_false_iff.mpr c13
        subst c13
        have H1 : (if 0 ≤ (l0.length : Int) then (if ((l0.length : Int) : Int).toNat ≤ 35184372088832 then (impl_ThenPerm.l0 kj2 l1 (List.replicate ((l0.length : Int) : Int).toNat 0) l0 (l0.length : Int) 0) else (none)) else (none)) = some r := by rw [if_neg (show ¬ (false = true) by decide)] at H; exact H
        clear H
        have H := H1
        clear H1
        have c14 := cp_ H
        replace H := ca_ H
        have c14b0 := eq_true c14
        have c14b1 := decide_eq_true c14
        clear c14
        have c15 := cp_ H
        replace H := ca_ H
        have c15b0 := eq_true c15
        have c15b1 := decide_eq_true c15
        clear c15
        obtain ⟨y299, hy299⟩ : ∃ y_ : List Int, y_ = (List.replicate ((l0.length : Int) : Int).toNat 0) := ⟨_, rfl⟩
        replace H : (impl_ThenPerm.l0 kj2 l1 y299 l0 (l0.length : Int) 0) = some r := by first | (rw [hy299]; exact H) | exact H
        have Ny299 := Aside0.mk hy299
        clear hy299
        have H' := Aside0.mk H
        clear H
        go_wp2_with (first | ((with_reducible refine gate_dst (N := 25) rfl ?_); (try (refine gate_guard (by rfl) ?_; dsimp only)); refine Kd.R_make (Kd.int .i64) _ 3 rfl (N := 25) rfl 23 _ _ rfl (l0.length : Int) rfl rfl Try.underlying23 (.int .i64 0) 8 info3 rfl (by decide) (by omega) 0 (ok := fun _ => True) (okp := fun _ => True) rfl (fun _ hk => hk) trivial (of_decide_eq_true qe_) (Nat.le_trans (Nat.mul_le_mul_right _ (of_decide_eq_true qe_ : (l0.length : Int).toNat ≤ 35184372088832)) (by omega)) (Below.refl _ _) (Nat.le_refl _) ?_; intro v300 w16 ho17 hb hg_ hnew_; clear hg_ hnew_; (first | rw [← Ny299.out] at ho17 | (simp only [Int.reduceToNat] at ho17; rw [← Ny299.out] at ho17)); have HO301 := rl_ w ho17; replace HB := b1_ hb; clear hb ho17))
        go_loopg [28] kj2 (fun kq v28 w' => ∃ (x5_2 : List Int) (x28_2 : Int), v28 = .int .i64 x28_2 ∧ Aside0 (impl_ThenPerm.l0 kq l1 x5_2 l0 (l0.length : Int) x28_2 = some r) ∧ Aside0 (kq ≤ kj2) ∧ Aside0 (Kd.R (Kd.int .i64) 3 w' w.heap.size (fun _ => True) v300 x5_2) ∧ Aside0 (Below w.heap.size w w'))
        case atStart => exact ⟨(y299), (0), qc_, H', ⟨Nat.le_refl _⟩, ⟨(rr_ HO301)⟩, ⟨hB_⟩⟩
        case round =>
          clear H'
          obtain ⟨x5_2, x28_2, rfl, HA, HK2, HO_5, HB⟩ := hrel
          cases gk with
          | zero => exact absurd HA.out (by simp [impl_ThenPerm.l0])
          | succ k2 =>
            have H := HA.out
            clear HA
            simp only [impl_ThenPerm.l0] at H
            by_cases c18 : x28_2 < (l0.length : Int)
            · rw [if_pos c18] at H
              have c18b0 := decide_eq_true c18
              clear c18
              have c19 := cp_ H
              replace H := ca_ H
              have c19b0 := decide_eq_true c19
              clear c19
              have c20 := cp_ H
              replace H := ca_ H
              have c20b0 := decide_eq_true c20
              clear c20
              have c21 := cp_ H
              replace H := ca_ H
              have c21b0 := decide_eq_true c21
              clear c21
              have c22 := cp_ H
              replace H := ca_ H
              have c22b0 := decide_eq_true c22
              clear c22
              have c23 := cp_ H
              replace H := ca_ H
              have c23b0 := decide_eq_true c23
              clear c23
              obtain ⟨y304, hy304⟩ : ∃ y_ : List Int, y_ = (x5_2.set (x28_2 : Int).toNat (rd l1 (rd l0 x28_2))) := ⟨_, rfl⟩
              replace H : (impl_ThenPerm.l0 k2 l1 y304 l0 (l0.length : Int) (wrap64 (x28_2 + 1))) = some r := by first | (rw [hy304]; exact H) | exact H
              have Ny304 := Aside0.mk hy304
              clear hy304
              have H' := Aside0.mk H
              clear H
              have p302 : 0 ≤ (x28_2 : Int) := of_decide_eq_true qe_
              have q302 : x28_2 < (l0.length : Int) := of_decide_eq_true qe_
              obtain ⟨ad302, e302, hx302_0⟩ := Kd.at_int HR0.out x28_2 p302 q302
              cases e302
              replace hx302_0 := (HB.out.cell (World.block_lt_of_cell? w _ hx302_0)).trans hx302_0
              replace p302 := eq_true p302
              replace q302 := eq_true q302
              have p303 : 0 ≤ ((rd l0 x28_2) : Int) := of_decide_eq_true qe_
              have q303 : (rd l0 x28_2) < (l1.length : Int) := of_decide_eq_true qe_
              obtain ⟨ad303, e303, hx303_0⟩ := Kd.at_int HR1.out (rd l0 x28_2) p303 q303
              cases e303
              replace hx303_0 := (HB.out.cell (World.block_lt_of_cell? w _ hx303_0)).trans hx303_0
              replace p303 := eq_true p303
              replace q303 := eq_true q303
              have p24 : 0 ≤ (x28_2 : Int) := of_decide_eq_true qe_
              have q24 : (x28_2 : Int) < ((x5_2.length : Int) : Int) := of_decide_eq_true qe_
              obtain ⟨go24, co24, eo24, gb24, gl24, cl24, HG24⟩ := Kd.R_form HO_5.out (by omega)
              (first | cases eo24 | (injection eo24 with ea_ en_ ec_; (first | subst ea_ | (injection ea_ with ea_; subst ea_)); subst ec_; clear en_))
              have GB24 := Aside0.mk gb24
              have GG24 := Aside0.mk HG24
              clear gb24 gl24 HG24
              obtain ⟨hx24_0, hf24_0⟩ := Kd.R_celln 0 HO_5.out (x28_2 : Int) p24 q24
              replace p24 := eq_true p24
              replace q24 := eq_true q24
              have HP25 := Kd.R_putg HO_5.out (x28_2 : Int) (rd l1 (rd l0 x28_2))
              go_wp2_with (first | ((with_reducible refine gate_store (t := 3) (p := 39) rfl ?_); refine store_event (t := 3) (p := 39) (v := ?vo_w26) (w1 := (wr.setCell ⟨go24, (x28_2 : Int).toNat, none⟩ (.int .i64 (rd l1 (rd l0 x28_2))))) ?hg ?ho ?hn ?hr ?_; (case ho => rfl); (case hg => rfl); (case hn => rfl); (case hr => first | (go_simp; done) | (go_simp; rfl)); intro w26 hw; have hg : wr.grownBy w26 (some go24) := (by rw [hw]; exact HP25.2); have hp_ : Kd.R (Kd.int .i64) 3 w26 w.heap.size (fun _ => True) (.slice (some ⟨go24, 0, none⟩) x5_2.length co24) y304 := (by rw [hw, Ny304.out]; exact HP25.1); clear HP25; replace HO_5 := Aside0.mk (hp_); replace HB := Aside0.mk ((by rw [hw]; exact below_set (HB.out) GB24.out : Below w.heap.size w w26)); clear hg hw hp_))
              go_roundg k2
              case measure => have := HJ2.out; have := HK2.out; omega
              case rel => exact ⟨(y304), (wrap64 (x28_2 + 1)), qc_, H', ⟨by have := HJ2.out; have := HK2.out; omega⟩, ⟨(rr_ HO_5)⟩, ⟨hB_⟩⟩
            · rw [if_neg c18] at H
              have c18b0 := decide_eq_false c18
              clear c18
              obtain rfl := Option.some.inj H
              go_wp2
              go_ret
              exact ⟨_, qb_, (rr_ HO_5), hB_⟩
end Go.Proofs.Ytoijcallajegfaa.A
end
section
namespace Go.Proofs.Ytoijcallajegfaa.A
open Go.RowKit Go.Proofs.YtoijcallajegfaaW.PrintWords Go.Proofs.YtoijcallajegfaaW.PrintLast Go.Proofs.YtoijcallajegfaaW.PrintMore
attribute [local go_sem] max2_int min2_int max_two min_two max_three min_three max_four min_four
set_option linter.unusedVariables false
set_option linter.unusedSimpArgs false
def impl_ShearSurface.f (k : Nat) (l0_0 : List Int) (l0_1 : List Int) : Option (List Int × List Int × Bool) := (impl_SurfaceOk.f k l0_0 l0_1).bind fun t570 => (if t570 = true then ((impl_copyInts.f l0_0).bind fun t571 => ((impl_InversePerm.f k l0_0).bind fun t574 => ((impl_ThenPerm.f k t574 l0_1).bind fun t577 => (some (t571, t577, true))))) else (some (([] : List Int), ([] : List Int), false)))
theorem impl_ShearSurface.mono : ∀ a0 a1 k, LeO (impl_ShearSurface.f k a0 a1) (impl_ShearSurface.f (k + 1) a0 a1) := by
  intro a0 a1 k
  unfold impl_ShearSurface.f
  repeat' first|exact impl_InversePerm.mono _ _|exact impl_SurfaceOk.mono _ _ _|exact impl_ThenPerm.mono _ _ _|exact lo_|refine LeO.ite ?_ ?_|refine LeO.bind ?_ (fun _ => ?_)
def impl_ShearSurface.T3 : Bool × List (List Nat × List Nat) := (true, [([], []), ([0], [0]), ([1], [1]), ([], []), ([3], [3]), ([4, 2], [4]), ([], []), ([6], [6]), ([5, 7, 5], [5, 7]), ([2, 8], [2, 8]), ([9, 8, 0, 1, 2, 3, 4, 5, 6, 7, 8, 9], [9]), ([10, 0, 1, 2, 3, 4, 5, 6, 7, 8, 9, 10], [])])
def impl_ShearSurface.B3 : List Nat := [0, 1, 3, 0, 8, 31, 0, 64, 255, 511, 1023, 2047]
theorem impl_ShearSurface.tab3 : rtab .any (opsOf Try.f114 3) = impl_ShearSurface.T3 := by kernel_rfl
theorem impl_ShearSurface.bits3 : waitsOk impl_ShearSurface.T3.2 impl_ShearSurface.B3 = true := by kernel_rfl
set_option maxHeartbeats 8000000 in
set_option maxRecDepth 100000 in
theorem impl_ShearSurface.calls (k : Nat) (A0_0 : Option Addr) (c0_0 : Nat) (l0_0 : List Int) (A0_1 : Option Addr) (c0_1 : Nat) (l0_1 : List Int) (r1 : List Int) (r2 : List Int) (r3 : Bool) (w : World) (hr0_0 : Kd.C (Kd.int .i64) w A0_0 l0_0.length l0_0) (hc0_0 : l0_0.length ≤ c0_0) (hr0_1 : Kd.C (Kd.int .i64) w A0_1 l0_1.length l0_1) (hc0_1 : l0_1.length ≤ c0_1) (h : impl_ShearSurface.f k l0_0 l0_1 = some (r1, r2, r3)) :
    Calls Try.prog 114 #[.agg #[.slice A0_0 l0_0.length c0_0, .slice A0_1 l0_1.length c0_1]] w fun e w' => ∃ v0_ v1_ : Value, e = .returned (.tuple #[.agg #[v0_, v1_], .bool r3]) ∧ Kd.R (Kd.int .i64) 3 w' w.heap.size (fun k_ => some k_ ≠ (v1_ : Value).ownBlock) v0_ r1 ∧ Kd.R (Kd.int .i64) 3 w' w.heap.size (fun k_ => some k_ ≠ (v0_ : Value).ownBlock) v1_ r2 ∧ Below w.heap.size w w' := by
  have hu33 := Try.underlying33
  have HR0_0 := Aside0.mk hr0_0
  have HC0_0 := Aside0.mk hc0_0
  clear hr0_0 hc0_0
  have HR0_1 := Aside0.mk hr0_1
  have HC0_1 := Aside0.mk hc0_1
  clear hr0_1 hc0_1
  have HB := Aside0.mk (Below.refl w.heap.size w)
  have H := h
  unfold impl_ShearSurface.f at H
  clear h
  obtain ⟨t570, A2, H⟩ := bi_ H
  by_cases c3 : t570 = true
  · subst c3
    rw [if_pos rfl] at H
    obtain ⟨t571, A4, H⟩ := bi_ H
    obtain ⟨t574, A5, H⟩ := bi_ H
    obtain ⟨t577, A6, H⟩ := bi_ H
    simp only [Option.some.injEq, Prod.mk.injEq] at H
    obtain ⟨rfl, rfl, rfl⟩ := H
    go_enter Try.func114, Try.ntmps114
    try go_wp2_with (first | ((with_reducible refine gate_dst (N := 1) rfl ?_); refine bx_ 1 #[.slice A0_0 l0_0.length c0_0, .slice A0_1 l0_1.length c0_1] 33 ?_; intro gb568 hg w7 hbox hb; have BK568 := Aside0.mk hbox; have GW568 := gw_ w hg; have GE568 := GW568; replace HB := b1_ hb; clear hb hbox hg) | ((with_reducible refine gate_dst (N := 2) rfl ?_); refine bx_ 2 #[.slice none 0 0, .slice none 0 0] 33 ?_; intro gb569 hg w8 hbox hb; have BK569 := Aside0.mk hbox; have GW569 := gw_ w hg; have GE569 := GW569; replace HB := b1_ hb; have NB568_569 := gN_ BK568 hg; have NB569_568 := gP_ BK568 hg; replace BK568 := bb_ BK568 hb; clear hb hbox hg; have hnb9 := NB568_569.out; have hnc9 := NB569_568.out; obtain ⟨hcz10_0, hcz10_1, hfz10_0, hfz10_1⟩ := c2_ BK568) | ((with_reducible refine gate_callee (f := 19) rfl ?_); refine gL_ (some 5) Try.func19 #[.agg #[.slice A0_0 l0_0.length c0_0, .slice A0_1 l0_1.length c0_1]] rfl qa_ ?_; (with_reducible refine (impl_SurfaceOk.calls k _ _ l0_0 _ _ l0_1 true _ (cb_ HR0_0) HC0_0.out (cb_ HR0_1) HC0_1.out A2.out).mono ?_); rintro e w11 ⟨rfl, hb⟩; refine ⟨_, rfl, ?_⟩; replace BK568 := bb_ BK568 hb; replace BK569 := bb_ BK569 hb; replace HB := b1_ hb; clear hb))
    replace BK568 := Aside0.mk (blk_drew BK568.out)
    replace BK569 := Aside0.mk (blk_drew BK569.out)
    replace HB := Aside0.mk (below_drew1 HB.out)
    refine start_ (n := 12) (S := fun w' => w'.cell? ⟨gb568, 0, none⟩ = some (.slice A0_0 l0_0.length c0_0) ∧ w'.cell? ⟨gb568, 1, none⟩ = some (.slice A0_1 l0_1.length c0_1)) (ds := []) (bl_ 12 0) (by kernel_rfl) rfl (by kernel_rfl) ⟨cz0_ BK568, cz1_ BK568⟩ (fun hHeld => ?_); refine with_tabW impl_ShearSurface.tab3 impl_ShearSurface.bits3 (fun HT_ HW_ => ?_)
    generalize w11.drew = w12 at BK568 BK569 HB hHeld ⊢
    refine pu_ 0 (some 8) (bl_ 12 1) HT_ ?_
    refine pu_ 3 (some 11) (bl_ 12 9) HT_ ?_
    refine pu_ 6 (some 14) (bl_ 12 73) HT_ ?_
    refine ta_ 1 (some 9) (bl_ 12 75) HT_ HW_ hHeld ?_
    refine ta_ 4 (some 12) (bl_ 12 91) HT_ HW_ hHeld ?_
    refine ta_ 7 (some 15) (bl_ 12 219) HT_ HW_ hHeld ?_
    refine on_ 2 (some 10) (bl_ 12 223) HT_ (fun K hK => ?_)
    refine gO_ Try.func100 #[.slice A0_0 l0_0.length c0_0] (by rfl) rfl rfl qa_ ?_
    with_reducible refine (impl_copyInts.calls _ _ l0_0 t571 _ (cb_ HR0_0) HC0_0.out A4.out).mono ?_
    rintro e w13 ⟨v572, rfl, ho0, hb⟩
    refine ⟨_, rfl, ?_⟩
    have HO573 := rl_ w ho0
    replace BK568 := bb_ BK568 hb
    replace BK569 := bb_ BK569 hb
    replace HB := b1_ hb
    clear hb ho0
    refine hK.out _ _ ⟨cz0_ BK568, cz1_ BK568⟩ (fun hHeld => ?_)
    clear hK K
    refine no_ (some 10) ?_
    refine on_ 5 (some 13) (bl_ 12 255) HT_ (fun K hK => ?_)
    refine gO_ Try.func122 #[.slice A0_0 l0_0.length c0_0] (by rfl) rfl rfl qa_ ?_
    with_reducible refine (impl_InversePerm.calls k _ _ l0_0 t574 _ (cb_ HR0_0) HC0_0.out A5.out).mono ?_
    rintro e w14 ⟨v575, rfl, ho0, hb⟩
    refine ⟨_, rfl, ?_⟩
    have HO576 := Aside0.mk (Kd.R_lower (Kd.R_new' ho0 (Kd.R_lt (rr_ HO573))) (below_size hB_))
    replace HO573 := Aside0.mk (Kd.R_elder' (rr_ HO573) (Kd.R_base ho0) hb)
    replace BK568 := bb_ BK568 hb
    replace BK569 := bb_ BK569 hb
    replace HB := b1_ hb
    clear hb ho0
    obtain ⟨Ao15, co15, eo15⟩ := Kd.R_slice HO576.out
    (first | subst eo15 | (injection eo15 with f1_ f2_ f3_; have f4_ := f1_.symm; have f5_ := f3_.symm; clear f1_ f2_ f3_; subst f4_; subst f5_))
    refine hK.out _ _ ⟨cz0_ BK568, cz1_ BK568⟩ (fun hHeld => ?_)
    clear hK K
    refine no_ (some 13) ?_
    refine on_ 8 (some 16) (bl_ 12 511) HT_ (fun K hK => ?_)
    refine gO_ Try.func152 #[.slice Ao15 t574.length co15, .slice A0_1 l0_1.length c0_1] (by rfl) rfl rfl qa_ ?_
    with_reducible refine (impl_ThenPerm.calls k _ _ t574 _ _ l0_1 t577 _ (cr_ HO576) ((Kd.R_reads' HO576.out).2.1) (cb_ HR0_1) HC0_1.out A6.out).mono ?_
    rintro e w16 ⟨v578, rfl, ho0, hb⟩
    refine ⟨_, rfl, ?_⟩
    have HO579 := Aside0.mk (Kd.R_lower (Kd.R_new' (Kd.R_new' ho0 (Kd.R_lt (rr_ HO573))) (Kd.R_lt (rr_ HO576))) (below_size hB_))
    replace HO573 := Aside0.mk (Kd.R_elder' (rr_ HO573) (Kd.R_base ho0) hb)
    replace HO576 := Aside0.mk (Kd.R_elder' (rr_ HO576) (Kd.R_base ho0) hb)
    replace BK568 := bb_ BK568 hb
    replace BK569 := bb_ BK569 hb
    replace HB := b1_ hb
    clear hb ho0
    obtain ⟨Ao17, co17, eo17⟩ := Kd.R_slice HO579.out
    (first | subst eo17 | (injection eo17 with f1_ f2_ f3_; have f4_ := f1_.symm; have f5_ := f3_.symm; clear f1_ f2_ f3_; subst f4_; subst f5_))
    obtain ⟨Ao18, co18, eo18⟩ := Kd.R_slice HO573.out
    (first | subst eo18 | (injection eo18 with f1_ f2_ f3_; have f4_ := f1_.symm; have f5_ := f3_.symm; clear f1_ f2_ f3_; subst f4_; subst f5_))
    refine hK.out _ _ ⟨cz0_ BK568, cz1_ BK568⟩ (fun hHeld => ?_)
    clear hK K
    refine no_ (some 16) ?_
    refine pu_ 9 (some 17) (bl_ 12 1023) HT_ ?_
    refine on_ 10 (none) (bl_ 12 2047) HT_ (fun K hK => ?_)
    have hs19 : w16.cell? ⟨gb569, 0, none⟩ = some (.slice none 0 0) := cz0_ BK569
    have hfs19 := blk_frozen BK569.out 0
    have hns19_0 := NB568_569.out
    have hms19_0 := NB569_568.out
    have hs20 : w16.cell? ⟨gb569, 1, none⟩ = some (.slice none 0 0) := cz1_ BK569
    have hfs20 := blk_frozen BK569.out 1
    have hns20_0 := NB568_569.out
    have hms20_0 := NB569_568.out
    refine skip_ (w1 := ?_) (by rfl) rfl ?_ ?_
    rotate_left
    · go_simp
      rfl
    refine hK.out _ _ ⟨((cell_far (p := ⟨gb569, _, none⟩) NB568_569.out _).trans (((cell_far (p := ⟨gb569, _, none⟩) NB568_569.out _).trans (hHeld.1)))), ((cell_far (p := ⟨gb569, _, none⟩) NB568_569.out _).trans (((cell_far (p := ⟨gb569, _, none⟩) NB568_569.out _).trans (hHeld.2))))⟩ (fun hHeld => ?_)
    clear hK K
    refine pu_ 11 (some 3) (bl_ 12 4095) HT_ ?_
    refine done_ (done_of HT_.out (by kernel_rfl)) ?_
    try go_wp2
    refine bodyPost_ret (results_ct rfl _ _ gb569 33 #[.slice Ao18 t571.length co18, .slice Ao17 t577.length co17] (0, 0) _ rfl qp_ Try.underlying33 rfl (by kernel_rfl)) rfl ?_
    exact ⟨_, _, qb_, (rw_ (Kd.R_mono (fa_ HO573 BK569) (fun _ hk => hk.2))), (rw_ (Kd.R_mono (fa_ HO579 BK569) (fun _ hk => hk.1.2))), hB_⟩
  · replace c3 := Bool.eq_false_iff.mpr c3
    subst c3
    have H1 : (some (([] : List Int), ([] : List Int), false)) = some (r1, r2, r3) := by rw [if_neg (show ¬ (false = true) by decide)] at H; exact H
    clear H
    have H := H1
    clear H1
    simp only [Option.some.injEq, Prod.mk.injEq] at H
    obtain ⟨rfl, rfl, rfl⟩ := H
    go_enter Try.func114, Try.ntmps114
    go_wp2_with (first | ((with_reducible refine gate_dst (N := 1) rfl ?_); refine bx_ 1 #[.slice A0_0 l0_0.length c0_0, .slice A0_1 l0_1.length c0_1] 33 ?_; intro gb568 hg w21 hbox hb; have BK568 := Aside0.mk hbox; have GW568 := gw_ w hg; have GE568 := GW568; replace HB := b1_ hb; clear hb hbox hg) | ((with_reducible refine gate_dst (N := 2) rfl ?_); refine bx_ 2 #[.slice none 0 0, .slice none 0 0] 33 ?_; intro gb569 hg w22 hbox hb; have BK569 := Aside0.mk hbox; have GW569 := gw_ w hg; have GE569 := GW569; replace HB := b1_ hb; have NB568_569 := gN_ BK568 hg; have NB569_568 := gP_ BK568 hg; replace BK568 := bb_ BK568 hb; clear hb hbox hg; have hnb23 := NB568_569.out; have hnc23 := NB569_568.out; obtain ⟨hcz24_0, hcz24_1, hfz24_0, hfz24_1⟩ := c2_ BK568) | ((with_reducible refine gate_callee (f := 19) rfl ?_); refine gL_ (some 5) Try.func19 #[.agg #[.slice A0_0 l0_0.length c0_0, .slice A0_1 l0_1.length c0_1]] rfl qa_ ?_; (with_reducible refine (impl_SurfaceOk.calls k _ _ l0_0 _ _ l0_1 false _ (cb_ HR0_0) HC0_0.out (cb_ HR0_1) HC0_1.out A2.out).mono ?_); rintro e w25 ⟨rfl, hb⟩; refine ⟨_, rfl, ?_⟩; replace BK568 := bb_ BK568 hb; replace BK569 := bb_ BK569 hb; replace HB := b1_ hb; clear hb; obtain ⟨hcz26_0, hcz26_1, hfz26_0, hfz26_1⟩ := c2_ BK569))
    refine bodyPost_ret (results_ct rfl _ _ gb569 33 #[.slice none 0 0, .slice none 0 0] (0, 0) _ rfl qp_ Try.underlying33 rfl (by kernel_rfl)) rfl ?_
    exact ⟨_, _, qb_, by first | exact Kd.R_nil _ _ _ _ _ | exact Kd.N_nil _ _ _ _ _ | exact Kd.V_nil _ _ _ _ _ | exact Kd.Q_nil _ _ _ _ _ | exact Kd.S_nil _ _ _ _ _, by first | exact Kd.R_nil _ _ _ _ _ | exact Kd.N_nil _ _ _ _ _ | exact Kd.V_nil _ _ _ _ _ | exact Kd.Q_nil _ _ _ _ _ | exact Kd.S_nil _ _ _ _ _, hB_⟩
end Go.Proofs.Ytoijcallajegfaa.A
end
section
namespace Go.Proofs.Ytoijcallajegfaa.A
open Go.RowKit Go.Proofs.YtoijcallajegfaaW.PrintWords Go.Proofs.YtoijcallajegfaaW.PrintLast Go.Proofs.YtoijcallajegfaaW.PrintMore
attribute [local go_sem] max2_int min2_int max_two min_two max_three min_three max_four min_four
set_option linter.unusedVariables false
set_option linter.unusedSimpArgs false
def impl_UnshearSurface.f (k : Nat) (l0_0 : List Int) (l0_1 : List Int) : Option (List Int × List Int × Bool) := (impl_SurfaceOk.f k l0_0 l0_1).bind fun t582 => (if t582 = true then ((impl_copyInts.f l0_0).bind fun t583 => ((impl_ThenPerm.f k l0_0 l0_1).bind fun t586 => (some (t583, t586, true)))) else (some (([] : List Int), ([] : List Int), false)))
theorem impl_UnshearSurface.mono : ∀ a0 a1 k, LeO (impl_UnshearSurface.f k a0 a1) (impl_UnshearSurface.f (k + 1) a0 a1) := by
  intro a0 a1 k
  unfold impl_UnshearSurface.f
  repeat' first|exact impl_SurfaceOk.mono _ _ _|exact impl_ThenPerm.mono _ _ _|exact lo_|refine LeO.ite ?_ ?_|refine LeO.bind ?_ (fun _ => ?_)
def impl_UnshearSurface.T3 : Bool × List (List Nat × List Nat) := (true, [([], []), ([0], [0]), ([1], [1]), ([], []), ([3], [3]), ([], []), ([5], [5]), ([4, 6, 2], [4, 6]), ([2, 7], [2, 7]), ([8, 7, 0, 1, 2, 3, 4, 5, 6, 7, 8], [8]), ([9, 0, 1, 2, 3, 4, 5, 6, 7, 8, 9], [])])
def impl_UnshearSurface.B3 : List Nat := [0, 1, 3, 0, 8, 0, 32, 127, 255, 511, 1023]
theorem impl_UnshearSurface.tab3 : rtab .any (opsOf Try.f115 3) = impl_UnshearSurface.T3 := by kernel_rfl
theorem impl_UnshearSurface.bits3 : waitsOk impl_UnshearSurface.T3.2 impl_UnshearSurface.B3 = true := by kernel_rfl
set_option maxHeartbeats 8000000 in
set_option maxRecDepth 100000 in
theorem impl_UnshearSurface.calls (k : Nat) (A0_0 : Option Addr) (c0_0 : Nat) (l0_0 : List Int) (A0_1 : Option Addr) (c0_1 : Nat) (l0_1 : List Int) (r1 : List Int) (r2 : List Int) (r3 : Bool) (w : World) (hr0_0 : Kd.C (Kd.int .i64) w A0_0 l0_0.length l0_0) (hc0_0 : l0_0.length ≤ c0_0) (hr0_1 : Kd.C (Kd.int .i64) w A0_1 l0_1.length l0_1) (hc0_1 : l0_1.length ≤ c0_1) (h : impl_UnshearSurface.f k l0_0 l0_1 = some (r1, r2, r3)) :
    Calls Try.prog 115 #[.agg #[.slice A0_0 l0_0.length c0_0, .slice A0_1 l0_1.length c0_1]] w fun e w' => ∃ v0_ v1_ : Value, e = .returned (.tuple #[.agg #[v0_, v1_], .bool r3]) ∧ Kd.R (Kd.int .i64) 3 w' w.heap.size (fun k_ => some k_ ≠ (v1_ : Value).ownBlock) v0_ r1 ∧ Kd.R (Kd.int .i64) 3 w' w.heap.size (fun k_ => some k_ ≠ (v0_ : Value).ownBlock) v1_ r2 ∧ Below w.heap.size w w' := by
  have hu33 := Try.underlying33
  have HR0_0 := Aside0.mk hr0_0
  have HC0_0 := Aside0.mk hc0_0
  clear hr0_0 hc0_0
  have HR0_1 := Aside0.mk hr0_1
  have HC0_1 := Aside0.mk hc0_1
  clear hr0_1 hc0_1
  have HB := Aside0.mk (Below.refl w.heap.size w)
  have H := h
  unfold impl_UnshearSurface.f at H
  clear h
  obtain ⟨t582, A2, H⟩ := bi_ H
  by_cases c3 : t582 = true
  · subst c3
    rw [if_pos rfl] at H
    obtain ⟨t583, A4, H⟩ := bi_ H
    obtain ⟨t586, A5, H⟩ := bi_ H
    simp only [Option.some.injEq, Prod.mk.injEq] at H
    obtain ⟨rfl, rfl, rfl⟩ := H
    go_enter Try.func115, Try.ntmps115
    try go_wp2_with (first | ((with_reducible refine gate_dst (N := 1) rfl ?_); refine bx_ 1 #[.slice A0_0 l0_0.length c0_0, .slice A0_1 l0_1.length c0_1] 33 ?_; intro gb580 hg w6 hbox hb; have BK580 := Aside0.mk hbox; have GW580 := gw_ w hg; have GE580 := GW580; replace HB := b1_ hb; clear hb hbox hg) | ((with_reducible refine gate_dst (N := 2) rfl ?_); refine bx_ 2 #[.slice none 0 0, .slice none 0 0] 33 ?_; intro gb581 hg w7 hbox hb; have BK581 := Aside0.mk hbox; have GW581 := gw_ w hg; have GE581 := GW581; replace HB := b1_ hb; have NB580_581 := gN_ BK580 hg; have NB581_580 := gP_ BK580 hg; replace BK580 := bb_ BK580 hb; clear hb hbox hg; have hnb8 := NB580_581.out; have hnc8 := NB581_580.out; obtain ⟨hcz9_0, hcz9_1, hfz9_0, hfz9_1⟩ := c2_ BK580) | ((with_reducible refine gate_callee (f := 19) rfl ?_); refine gL_ (some 5) Try.func19 #[.agg #[.slice A0_0 l0_0.length c0_0, .slice A0_1 l0_1.length c0_1]] rfl qa_ ?_; (with_reducible refine (impl_SurfaceOk.calls k _ _ l0_0 _ _ l0_1 true _ (cb_ HR0_0) HC0_0.out (cb_ HR0_1) HC0_1.out A2.out).mono ?_); rintro e w10 ⟨rfl, hb⟩; refine ⟨_, rfl, ?_⟩; replace BK580 := bb_ BK580 hb; replace BK581 := bb_ BK581 hb; replace HB := b1_ hb; clear hb))
    replace BK580 := Aside0.mk (blk_drew BK580.out)
    replace BK581 := Aside0.mk (blk_drew BK581.out)
    replace HB := Aside0.mk (below_drew1 HB.out)
    refine start_ (n := 11) (S := fun w' => w'.cell? ⟨gb580, 0, none⟩ = some (.slice A0_0 l0_0.length c0_0) ∧ w'.cell? ⟨gb580, 1, none⟩ = some (.slice A0_1 l0_1.length c0_1)) (ds := []) (bl_ 11 0) (by kernel_rfl) rfl (by kernel_rfl) ⟨cz0_ BK580, cz1_ BK580⟩ (fun hHeld => ?_); refine with_tabW impl_UnshearSurface.tab3 impl_UnshearSurface.bits3 (fun HT_ HW_ => ?_)
    generalize w10.drew = w11 at BK580 BK581 HB hHeld ⊢
    refine pu_ 0 (some 8) (bl_ 11 1) HT_ ?_
    refine pu_ 3 (some 11) (bl_ 11 9) HT_ ?_
    refine pu_ 5 (some 13) (bl_ 11 41) HT_ ?_
    refine ta_ 1 (some 9) (bl_ 11 43) HT_ HW_ hHeld ?_
    refine ta_ 4 (some 12) (bl_ 11 59) HT_ HW_ hHeld ?_
    refine ta_ 6 (some 14) (bl_ 11 123) HT_ HW_ hHeld ?_
    refine on_ 2 (some 10) (bl_ 11 127) HT_ (fun K hK => ?_)
    refine gO_ Try.func100 #[.slice A0_0 l0_0.length c0_0] (by rfl) rfl rfl qa_ ?_
    with_reducible refine (impl_copyInts.calls _ _ l0_0 t583 _ (cb_ HR0_0) HC0_0.out A4.out).mono ?_
    rintro e w12 ⟨v584, rfl, ho0, hb⟩
    refine ⟨_, rfl, ?_⟩
    have HO585 := rl_ w ho0
    replace BK580 := bb_ BK580 hb
    replace BK581 := bb_ BK581 hb
    replace HB := b1_ hb
    clear hb ho0
    refine hK.out _ _ ⟨cz0_ BK580, cz1_ BK580⟩ (fun hHeld => ?_)
    clear hK K
    refine no_ (some 10) ?_
    refine on_ 7 (some 15) (bl_ 11 255) HT_ (fun K hK => ?_)
    refine gO_ Try.func152 #[.slice A0_0 l0_0.length c0_0, .slice A0_1 l0_1.length c0_1] (by rfl) rfl rfl qa_ ?_
    with_reducible refine (impl_ThenPerm.calls k _ _ l0_0 _ _ l0_1 t586 _ (cb_ HR0_0) HC0_0.out (cb_ HR0_1) HC0_1.out A5.out).mono ?_
    rintro e w13 ⟨v587, rfl, ho0, hb⟩
    refine ⟨_, rfl, ?_⟩
    have HO588 := Aside0.mk (Kd.R_lower (Kd.R_new' ho0 (Kd.R_lt (rr_ HO585))) (below_size hB_))
    replace HO585 := Aside0.mk (Kd.R_elder' (rr_ HO585) (Kd.R_base ho0) hb)
    replace BK580 := bb_ BK580 hb
    replace BK581 := bb_ BK581 hb
    replace HB := b1_ hb
    clear hb ho0
    obtain ⟨Ao14, co14, eo14⟩ := Kd.R_slice HO588.out
    (first | subst eo14 | (injection eo14 with f1_ f2_ f3_; have f4_ := f1_.symm; have f5_ := f3_.symm; clear f1_ f2_ f3_; subst f4_; subst f5_))
    obtain ⟨Ao15, co15, eo15⟩ := Kd.R_slice HO585.out
    (first | subst eo15 | (injection eo15 with f1_ f2_ f3_; have f4_ := f1_.symm; have f5_ := f3_.symm; clear f1_ f2_ f3_; subst f4_; subst f5_))
    refine hK.out _ _ ⟨cz0_ BK580, cz1_ BK580⟩ (fun hHeld => ?_)
    clear hK K
    refine no_ (some 15) ?_
    refine pu_ 8 (some 16) (bl_ 11 511) HT_ ?_
    refine on_ 9 (none) (bl_ 11 1023) HT_ (fun K hK => ?_)
    have hs16 : w13.cell? ⟨gb581, 0, none⟩ = some (.slice none 0 0) := cz0_ BK581
    have hfs16 := blk_frozen BK581.out 0
    have hns16_0 := NB580_581.out
    have hms16_0 := NB581_580.out
    have hs17 : w13.cell? ⟨gb581, 1, none⟩ = some (.slice none 0 0) := cz1_ BK581
    have hfs17 := blk_frozen BK581.out 1
    have hns17_0 := NB580_581.out
    have hms17_0 := NB581_580.out
    refine skip_ (w1 := ?_) (by rfl) rfl ?_ ?_
    rotate_left
    · go_simp
      rfl
    refine hK.out _ _ ⟨((cell_far (p := ⟨gb581, _, none⟩) NB580_581.out _).trans (((cell_far (p := ⟨gb581, _, none⟩) NB580_581.out _).trans (hHeld.1)))), ((cell_far (p := ⟨gb581, _, none⟩) NB580_581.out _).trans (((cell_far (p := ⟨gb581, _, none⟩) NB580_581.out _).trans (hHeld.2))))⟩ (fun hHeld => ?_)
    clear hK K
    refine pu_ 10 (some 3) (bl_ 11 2047) HT_ ?_
    refine done_ (done_of HT_.out (by kernel_rfl)) ?_
    try go_wp2
    refine bodyPost_ret (results_ct rfl _ _ gb581 33 #[.slice Ao15 t583.length co15, .slice Ao14 t586.length co14] (0, 0) _ rfl qp_ Try.underlying33 rfl (by kernel_rfl)) rfl ?_
    exact ⟨_, _, qb_, (rw_ (Kd.R_mono (fa_ HO585 BK581) (fun _ hk => hk.2))), (rw_ (Kd.R_mono (fa_ HO588 BK581) (fun _ hk => hk.2))), hB_⟩
  · replace c3 := Bool.eq_false_iff.mpr c3
    subst c3
    have H1 : (some (([] : List Int), ([] : List Int), false)) = some (r1, r2, r3) := by rw [if_neg (show ¬ (false = true) by decide)] at H; exact H
    clear H
    have H := H1
    clear H1
    simp only [Option.some.injEq, Prod.mk.injEq] at H
    obtain ⟨rfl, rfl, rfl⟩ := H
    go_enter Try.func115, Try.ntmps115
    go_wp2_with (first | ((with_reducible refine gate_dst (N := 1) rfl ?_); refine bx_ 1 #[.slice A0_0 l0_0.length c0_0, .slice A0_1 l0_1.length c0_1] 33 ?_; intro gb580 hg w18 hbox hb; have BK580 := Aside0.mk hbox; have GW580 := gw_ w hg; have GE580 := GW580; replace HB := b1_ hb; clear hb hbox hg) | ((with_reducible refine gate_dst (N := 2) rfl ?_); refine bx_ 2 #[.slice none 0 0, .slice none 0 0] 33 ?_; intro gb581 hg w19 hbox hb; have BK581 := Aside0.mk hbox; have GW581 := gw_ w hg; have GE581 := GW581; replace HB := b1_ hb; have NB580_581 := gN_ BK580 hg; have NB581_580 := gP_ BK580 hg; replace BK580 := bb_ BK580 hb; clear hb hbox hg; have hnb20 := NB580_581.out; have hnc20 := NB581_580.out; obtain ⟨hcz21_0, hcz21_1, hfz21_0, hfz21_1⟩ := c2_ BK580) | ((with_reducible refine gate_callee (f := 19) rfl ?_); refine gL_ (some 5) Try.func19 #[.agg #[.slice A0_0 l0_0.length c0_0, .slice A0_1 l0_1.length c0_1]] rfl qa_ ?_; (with_reducible refine (impl_SurfaceOk.calls k _ _ l0_0 _ _ l0_1 false _ (cb_ HR0_0) HC0_0.out (cb_ HR0_1) HC0_1.out A2.out).mono ?_); rintro e w22 ⟨rfl, hb⟩; refine ⟨_, rfl, ?_⟩; replace BK580 := bb_ BK580 hb; replace BK581 := bb_ BK581 hb; replace HB := b1_ hb; clear hb; obtain ⟨hcz23_0, hcz23_1, hfz23_0, hfz23_1⟩ := c2_ BK581))
    refine bodyPost_ret (results_ct rfl _ _ gb581 33 #[.slice none 0 0, .slice none 0 0] (0, 0) _ rfl qp_ Try.underlying33 rfl (by kernel_rfl)) rfl ?_
    exact ⟨_, _, qb_, by first | exact Kd.R_nil _ _ _ _ _ | exact Kd.N_nil _ _ _ _ _ | exact Kd.V_nil _ _ _ _ _ | exact Kd.Q_nil _ _ _ _ _ | exact Kd.S_nil _ _ _ _ _, by first | exact Kd.R_nil _ _ _ _ _ | exact Kd.N_nil _ _ _ _ _ | exact Kd.V_nil _ _ _ _ _ | exact Kd.Q_nil _ _ _ _ _ | exact Kd.S_nil _ _ _ _ _, hB_⟩
end Go.Proofs.Ytoijcallajegfaa.A
end
section
namespace Go.Proofs.Ytoijcallajegfaa.A
open Go.RowKit Go.Proofs.YtoijcallajegfaaW.PrintWords Go.Proofs.YtoijcallajegfaaW.PrintLast Go.Proofs.YtoijcallajegfaaW.PrintMore
attribute [local go_sem] max2_int min2_int max_two min_two max_three min_three max_four min_four
set_option linter.unusedVariables false
set_option linter.unusedSimpArgs false
def impl_TurnSurface.f (k : Nat) (l0_0 : List Int) (l0_1 : List Int) : Option (List Int × List Int × Bool) := (impl_SurfaceOk.f k l0_0 l0_1).bind fun t591 => (if t591 = true then ((impl_InversePerm.f k l0_1).bind fun t592 => ((impl_copyInts.f l0_0).bind fun t595 => (some (t592, t595, true)))) else (some (([] : List Int), ([] : List Int), false)))
theorem impl_TurnSurface.mono : ∀ a0 a1 k, LeO (impl_TurnSurface.f k a0 a1) (impl_TurnSurface.f (k + 1) a0 a1) := by
  intro a0 a1 k
  unfold impl_TurnSurface.f
  repeat' first|exact impl_InversePerm.mono _ _|exact impl_SurfaceOk.mono _ _ _|exact lo_|refine LeO.ite ?_ ?_|refine LeO.bind ?_ (fun _ => ?_)
def impl_TurnSurface.T3 : Bool × List (List Nat × List Nat) := (true, [([], []), ([0], [0]), ([1], [1]), ([], []), ([3], [3]), ([4, 2], [4]), ([2, 5], [2, 5]), ([6, 5, 0, 1, 2, 3, 4, 5, 6], [6]), ([7, 0, 1, 2, 3, 4, 5, 6, 7], [])])
def impl_TurnSurface.B3 : List Nat := [0, 1, 3, 0, 8, 31, 63, 127, 255]
theorem impl_TurnSurface.tab3 : rtab .any (opsOf Try.f116 3) = impl_TurnSurface.T3 := by kernel_rfl
theorem impl_TurnSurface.bits3 : waitsOk impl_TurnSurface.T3.2 impl_TurnSurface.B3 = true := by kernel_rfl
set_option maxHeartbeats 8000000 in
set_option maxRecDepth 100000 in
theorem impl_TurnSurface.calls (k : Nat) (A0_0 : Option Addr) (c0_0 : Nat) (l0_0 : List Int) (A0_1 : Option Addr) (c0_1 : Nat) (l0_1 : List Int) (r1 : List Int) (r2 : List Int) (r3 : Bool) (w : World) (hr0_0 : Kd.C (Kd.int .i64) w A0_0 l0_0.length l0_0) (hc0_0 : l0_0.length ≤ c0_0) (hr0_1 : Kd.C (Kd.int .i64) w A0_1 l0_1.length l0_1) (hc0_1 : l0_1.length ≤ c0_1) (h : impl_TurnSurface.f k l0_0 l0_1 = some (r1, r2, r3)) :
    Calls Try.prog 116 #[.agg #[.slice A0_0 l0_0.length c0_0, .slice A0_1 l0_1.length c0_1]] w fun e w' => ∃ v0_ v1_ : Value, e = .returned (.tuple #[.agg #[v0_, v1_], .bool r3]) ∧ Kd.R (Kd.int .i64) 3 w' w.heap.size (fun k_ => some k_ ≠ (v1_ : Value).ownBlock) v0_ r1 ∧ Kd.R (Kd.int .i64) 3 w' w.heap.size (fun k_ => some k_ ≠ (v0_ : Value).ownBlock) v1_ r2 ∧ Below w.heap.size w w' := by
  have hu33 := Try.underlying33
  have HR0_0 := Aside0.mk hr0_0
  have HC0_0 := Aside0.mk hc0_0
  clear hr0_0 hc0_0
  have HR0_1 := Aside0.mk hr0_1
  have HC0_1 := Aside0.mk hc0_1
  clear hr0_1 hc0_1
  have HB := Aside0.mk (Below.refl w.heap.size w)
  have H := h
  unfold impl_TurnSurface.f at H
  clear h
  obtain ⟨t591, A2, H⟩ := bi_ H
  by_cases c3 : t591 = true
  · subst c3
    rw [if_pos rfl] at H
    obtain ⟨t592, A4, H⟩ := bi_ H
    obtain ⟨t595, A5, H⟩ := bi_ H
    simp only [Option.some.injEq, Prod.mk.injEq] at H
    obtain ⟨rfl, rfl, rfl⟩ := H
    go_enter Try.func116, Try.ntmps116
    try go_wp2_with (first | ((with_reducible refine gate_dst (N := 1) rfl ?_); refine bx_ 1 #[.slice A0_0 l0_0.length c0_0, .slice A0_1 l0_1.length c0_1] 33 ?_; intro gb589 hg w6 hbox hb; have BK589 := Aside0.mk hbox; have GW589 := gw_ w hg; have GE589 := GW589; replace HB := b1_ hb; clear hb hbox hg) | ((with_reducible refine gate_dst (N := 2) rfl ?_); refine bx_ 2 #[.slice none 0 0, .slice none 0 0] 33 ?_; intro gb590 hg w7 hbox hb; have BK590 := Aside0.mk hbox; have GW590 := gw_ w hg; have GE590 := GW590; replace HB := b1_ hb; have NB589_590 := gN_ BK589 hg; have NB590_589 := gP_ BK589 hg; replace BK589 := bb_ BK589 hb; clear hb hbox hg; have hnb8 := NB589_590.out; have hnc8 := NB590_589.out; obtain ⟨hcz9_0, hcz9_1, hfz9_0, hfz9_1⟩ := c2_ BK589) | ((with_reducible refine gate_callee (f := 19) rfl ?_); refine gL_ (some 5) Try.func19 #[.agg #[.slice A0_0 l0_0.length c0_0, .slice A0_1 l0_1.length c0_1]] rfl qa_ ?_; (with_reducible refine (impl_SurfaceOk.calls k _ _ l0_0 _ _ l0_1 true _ (cb_ HR0_0) HC0_0.out (cb_ HR0_1) HC0_1.out A2.out).mono ?_); rintro e w10 ⟨rfl, hb⟩; refine ⟨_, rfl, ?_⟩; replace BK589 := bb_ BK589 hb; replace BK590 := bb_ BK590 hb; replace HB := b1_ hb; clear hb))
    replace BK589 := Aside0.mk (blk_drew BK589.out)
    replace BK590 := Aside0.mk (blk_drew BK590.out)
    replace HB := Aside0.mk (below_drew1 HB.out)
    refine start_ (n := 9) (S := fun w' => w'.cell? ⟨gb589, 0, none⟩ = some (.slice A0_0 l0_0.length c0_0) ∧ w'.cell? ⟨gb589, 1, none⟩ = some (.slice A0_1 l0_1.length c0_1)) (ds := []) (bl_ 9 0) (by kernel_rfl) rfl (by kernel_rfl) ⟨cz0_ BK589, cz1_ BK589⟩ (fun hHeld => ?_); refine with_tabW impl_TurnSurface.tab3 impl_TurnSurface.bits3 (fun HT_ HW_ => ?_)
    generalize w10.drew = w11 at BK589 BK590 HB hHeld ⊢
    refine pu_ 0 (some 8) (bl_ 9 1) HT_ ?_
    refine pu_ 3 (some 11) (bl_ 9 9) HT_ ?_
    refine ta_ 1 (some 9) (bl_ 9 11) HT_ HW_ hHeld ?_
    refine ta_ 4 (some 12) (bl_ 9 27) HT_ HW_ hHeld ?_
    refine on_ 2 (some 10) (bl_ 9 31) HT_ (fun K hK => ?_)
    refine gO_ Try.func122 #[.slice A0_1 l0_1.length c0_1] (by rfl) rfl rfl qa_ ?_
    with_reducible refine (impl_InversePerm.calls k _ _ l0_1 t592 _ (cb_ HR0_1) HC0_1.out A4.out).mono ?_
    rintro e w12 ⟨v593, rfl, ho0, hb⟩
    refine ⟨_, rfl, ?_⟩
    have HO594 := rl_ w ho0
    replace BK589 := bb_ BK589 hb
    replace BK590 := bb_ BK590 hb
    replace HB := b1_ hb
    clear hb ho0
    refine hK.out _ _ ⟨cz0_ BK589, cz1_ BK589⟩ (fun hHeld => ?_)
    clear hK K
    refine no_ (some 10) ?_
    refine on_ 5 (some 13) (bl_ 9 63) HT_ (fun K hK => ?_)
    refine gO_ Try.func100 #[.slice A0_0 l0_0.length c0_0] (by rfl) rfl rfl qa_ ?_
    with_reducible refine (impl_copyInts.calls _ _ l0_0 t595 _ (cb_ HR0_0) HC0_0.out A5.out).mono ?_
    rintro e w13 ⟨v596, rfl, ho0, hb⟩
    refine ⟨_, rfl, ?_⟩
    have HO597 := Aside0.mk (Kd.R_lower (Kd.R_new' ho0 (Kd.R_lt (rr_ HO594))) (below_size hB_))
    replace HO594 := Aside0.mk (Kd.R_elder' (rr_ HO594) (Kd.R_base ho0) hb)
    replace BK589 := bb_ BK589 hb
    replace BK590 := bb_ BK590 hb
    replace HB := b1_ hb
    clear hb ho0
    obtain ⟨Ao14, co14, eo14⟩ := Kd.R_slice HO597.out
    (first | subst eo14 | (injection eo14 with f1_ f2_ f3_; have f4_ := f1_.symm; have f5_ := f3_.symm; clear f1_ f2_ f3_; subst f4_; subst f5_))
    obtain ⟨Ao15, co15, eo15⟩ := Kd.R_slice HO594.out
    (first | subst eo15 | (injection eo15 with f1_ f2_ f3_; have f4_ := f1_.symm; have f5_ := f3_.symm; clear f1_ f2_ f3_; subst f4_; subst f5_))
    refine hK.out _ _ ⟨cz0_ BK589, cz1_ BK589⟩ (fun hHeld => ?_)
    clear hK K
    refine no_ (some 13) ?_
    refine pu_ 6 (some 14) (bl_ 9 127) HT_ ?_
    refine on_ 7 (none) (bl_ 9 255) HT_ (fun K hK => ?_)
    have hs16 : w13.cell? ⟨gb590, 0, none⟩ = some (.slice none 0 0) := cz0_ BK590
    have hfs16 := blk_frozen BK590.out 0
    have hns16_0 := NB589_590.out
    have hms16_0 := NB590_589.out
    have hs17 : w13.cell? ⟨gb590, 1, none⟩ = some (.slice none 0 0) := cz1_ BK590
    have hfs17 := blk_frozen BK590.out 1
    have hns17_0 := NB589_590.out
    have hms17_0 := NB590_589.out
    refine skip_ (w1 := ?_) (by rfl) rfl ?_ ?_
    rotate_left
    · go_simp
      rfl
    refine hK.out _ _ ⟨((cell_far (p := ⟨gb590, _, none⟩) NB589_590.out _).trans (((cell_far (p := ⟨gb590, _, none⟩) NB589_590.out _).trans (hHeld.1)))), ((cell_far (p := ⟨gb590, _, none⟩) NB589_590.out _).trans (((cell_far (p := ⟨gb590, _, none⟩) NB589_590.out _).trans (hHeld.2))))⟩ (fun hHeld => ?_)
    clear hK K
    refine pu_ 8 (some 3) (bl_ 9 511) HT_ ?_
    refine done_ (done_of HT_.out (by kernel_rfl)) ?_
    try go_wp2
    refine bodyPost_ret (results_ct rfl _ _ gb590 33 #[.slice Ao15 t592.length co15, .slice Ao14 t595.length co14] (0, 0) _ rfl qp_ Try.underlying33 rfl (by kernel_rfl)) rfl ?_
    exact ⟨_, _, qb_, (rw_ (Kd.R_mono (fa_ HO594 BK590) (fun _ hk => hk.2))), (rw_ (Kd.R_mono (fa_ HO597 BK590) (fun _ hk => hk.2))), hB_⟩
  · replace c3 := Bool.eq_false_iff.mpr c3
    subst c3
    have H1 : (some (([] : List Int), ([] : List Int), false)) = some (r1, r2, r3) := by rw [if_neg (show ¬ (false = true) by decide)] at H; exact H
    clear H
    have H := H1
    clear H1
    simp only [Option.some.injEq, Prod.mk.injEq] at H
    obtain ⟨rfl, rfl, rfl⟩ := H
    go_enter Try.func116, Try.ntmps116
    go_wp2_with (first | ((with_reducible refine gate_dst (N := 1) rfl ?_); refine bx_ 1 #[.slice A0_0 l0_0.length c0_0, .slice A0_1 l0_1.length c0_1] 33 ?_; intro gb589 hg w18 hbox hb; have BK589 := Aside0.mk hbox; have GW589 := gw_ w hg; have GE589 := GW589; replace HB := b1_ hb; clear hb hbox hg) | ((with_reducible refine gate_dst (N := 2) rfl ?_); refine bx_ 2 #[.slice none 0 0, .slice none 0 0] 33 ?_; intro gb590 hg w19 hbox hb; have BK590 := Aside0.mk hbox; have GW590 := gw_ w hg; have GE590 := GW590; replace HB := b1_ hb; have NB589_590 := gN_ BK589 hg; have NB590_589 := gP_ BK589 hg; replace BK589 := bb_ BK589 hb; clear hb hbox hg; have hnb20 := NB589_590.out; have hnc20 := NB590_589.out; obtain ⟨hcz21_0, hcz21_1, hfz21_0, hfz21_1⟩ := c2_ BK589) | ((with_reducible refine gate_callee (f := 19) rfl ?_); refine gL_ (some 5) Try.func19 #[.agg #[.slice A0_0 l0_0.length c0_0, .slice A0_1 l0_1.length c0_1]] rfl qa_ ?_; (with_reducible refine (impl_SurfaceOk.calls k _ _ l0_0 _ _ l0_1 false _ (cb_ HR0_0) HC0_0.out (cb_ HR0_1) HC0_1.out A2.out).mono ?_); rintro e w22 ⟨rfl, hb⟩; refine ⟨_, rfl, ?_⟩; replace BK589 := bb_ BK589 hb; replace BK590 := bb_ BK590 hb; replace HB := b1_ hb; clear hb; obtain ⟨hcz23_0, hcz23_1, hfz23_0, hfz23_1⟩ := c2_ BK590))
    refine bodyPost_ret (results_ct rfl _ _ gb590 33 #[.slice none 0 0, .slice none 0 0] (0, 0) _ rfl qp_ Try.underlying33 rfl (by kernel_rfl)) rfl ?_
    exact ⟨_, _, qb_, by first | exact Kd.R_nil _ _ _ _ _ | exact Kd.N_nil _ _ _ _ _ | exact Kd.V_nil _ _ _ _ _ | exact Kd.Q_nil _ _ _ _ _ | exact Kd.S_nil _ _ _ _ _, by first | exact Kd.R_nil _ _ _ _ _ | exact Kd.N_nil _ _ _ _ _ | exact Kd.V_nil _ _ _ _ _ | exact Kd.Q_nil _ _ _ _ _ | exact Kd.S_nil _ _ _ _ _, hB_⟩
end Go.Proofs.Ytoijcallajegfaa.A
end
section
namespace Go.Proofs.Ytoijcallajegfaa.A
open Go.RowKit Go.Proofs.YtoijcallajegfaaW.PrintWords Go.Proofs.YtoijcallajegfaaW.PrintLast Go.Proofs.YtoijcallajegfaaW.PrintMore
attribute [local go_sem] max2_int min2_int max_two min_two max_three min_three max_four min_four
set_option linter.unusedVariables false
set_option linter.unusedSimpArgs false
def impl_UnturnSurface.f (k : Nat) (l0_0 : List Int) (l0_1 : List Int) : Option (List Int × List Int × Bool) := (impl_SurfaceOk.f k l0_0 l0_1).bind fun t600 => (if t600 = true then ((impl_copyInts.f l0_1).bind fun t601 => ((impl_InversePerm.f k l0_0).bind fun t604 => (some (t601, t604, true)))) else (some (([] : List Int), ([] : List Int), false)))
theorem impl_UnturnSurface.mono : ∀ a0 a1 k, LeO (impl_UnturnSurface.f k a0 a1) (impl_UnturnSurface.f (k + 1) a0 a1) := by
  intro a0 a1 k
  unfold impl_UnturnSurface.f
  repeat' first|exact impl_InversePerm.mono _ _|exact impl_SurfaceOk.mono _ _ _|exact lo_|refine LeO.ite ?_ ?_|refine LeO.bind ?_ (fun _ => ?_)
def impl_UnturnSurface.T3 : Bool × List (List Nat × List Nat) := (true, [([], []), ([0], [0]), ([1], [1]), ([], []), ([3], [3]), ([4, 2], [4]), ([2, 5], [2, 5]), ([6, 5, 0, 1, 2, 3, 4, 5, 6], [6]), ([7, 0, 1, 2, 3, 4, 5, 6, 7], [])])
def impl_UnturnSurface.B3 : List Nat := [0, 1, 3, 0, 8, 31, 63, 127, 255]
theorem impl_UnturnSurface.tab3 : rtab .any (opsOf Try.f117 3) = impl_UnturnSurface.T3 := by kernel_rfl
theorem impl_UnturnSurface.bits3 : waitsOk impl_UnturnSurface.T3.2 impl_UnturnSurface.B3 = true := by kernel_rfl
set_option maxHeartbeats 8000000 in
set_option maxRecDepth 100000 in
theorem impl_UnturnSurface.calls (k : Nat) (A0_0 : Option Addr) (c0_0 : Nat) (l0_0 : List Int) (A0_1 : Option Addr) (c0_1 : Nat) (l0_1 : List Int) (r1 : List Int) (r2 : List Int) (r3 : Bool) (w : World) (hr0_0 : Kd.C (Kd.int .i64) w A0_0 l0_0.length l0_0) (hc0_0 : l0_0.length ≤ c0_0) (hr0_1 : Kd.C (Kd.int .i64) w A0_1 l0_1.length l0_1) (hc0_1 : l0_1.length ≤ c0_1) (h : impl_UnturnSurface.f k l0_0 l0_1 = some (r1, r2, r3)) :
    Calls Try.prog 117 #[.agg #[.slice A0_0 l0_0.length c0_0, .slice A0_1 l0_1.length c0_1]] w fun e w' => ∃ v0_ v1_ : Value, e = .returned (.tuple #[.agg #[v0_, v1_], .bool r3]) ∧ Kd.R (Kd.int .i64) 3 w' w.heap.size (fun k_ => some k_ ≠ (v1_ : Value).ownBlock) v0_ r1 ∧ Kd.R (Kd.int .i64) 3 w' w.heap.size (fun k_ => some k_ ≠ (v0_ : Value).ownBlock) v1_ r2 ∧ Below w.heap.size w w' := by
  have hu33 := Try.underlying33
  have HR0_0 := Aside0.mk hr0_0
  have HC0_0 := Aside0.mk hc0_0
  clear hr0_0 hc0_0
  have HR0_1 := Aside0.mk hr0_1
  have HC0_1 := Aside0.mk hc0_1
  clear hr0_1 hc0_1
  have HB := Aside0.mk (Below.refl w.heap.size w)
  have H := h
  unfold impl_UnturnSurface.f at H
  clear h
  obtain ⟨t600, A2, H⟩ := bi_ H
  by_cases c3 : t600 = true
  · subst c3
    rw [if_pos rfl] at H
    obtain ⟨t601, A4, H⟩ := bi_ H
    obtain ⟨t604, A5, H⟩ := bi_ H
    simp only [Option.some.injEq, Prod.mk.injEq] at H
    obtain ⟨rfl, rfl, rfl⟩ := H
    go_enter Try.func117, Try.ntmps117
    try go_wp2_with (first | ((with_reducible refine gate_dst (N := 1) rfl ?_); refine bx_ 1 #[.slice A0_0 l0_0.length c0_0, .slice A0_1 l0_1.length c0_1] 33 ?_; intro gb598 hg w6 hbox hb; have BK598 := Aside0.mk hbox; have GW598 := gw_ w hg; have GE598 := GW598; replace HB := b1_ hb; clear hb hbox hg) | ((with_reducible refine gate_dst (N := 2) rfl ?_); refine bx_ 2 #[.slice none 0 0, .slice none 0 0] 33 ?_; intro gb599 hg w7 hbox hb; have BK599 := Aside0.mk hbox; have GW599 := gw_ w hg; have GE599 := GW599; replace HB := b1_ hb; have NB598_599 := gN_ BK598 hg; have NB599_598 := gP_ BK598 hg; replace BK598 := bb_ BK598 hb; clear hb hbox hg; have hnb8 := NB598_599.out; have hnc8 := NB599_598.out; obtain ⟨hcz9_0, hcz9_1, hfz9_0, hfz9_1⟩ := c2_ BK598) | ((with_reducible refine gate_callee (f := 19) rfl ?_); refine gL_ (some 5) Try.func19 #[.agg #[.slice A0_0 l0_0.length c0_0, .slice A0_1 l0_1.length c0_1]] rfl qa_ ?_; (with_reducible refine (impl_SurfaceOk.calls k _ _ l0_0 _ _ l0_1 true _ (cb_ HR0_0) HC0_0.out (cb_ HR0_1) HC0_1.out A2.out).mono ?_); rintro e w10 ⟨rfl, hb⟩; refine ⟨_, rfl, ?_⟩; replace BK598 := bb_ BK598 hb; replace BK599 := bb_ BK599 hb; replace HB := b1_ hb; clear hb))
    replace BK598 := Aside0.mk (blk_drew BK598.out)
    replace BK599 := Aside0.mk (blk_drew BK599.out)
    replace HB := Aside0.mk (below_drew1 HB.out)
    refine start_ (n := 9) (S := fun w' => w'.cell? ⟨gb598, 0, none⟩ = some (.slice A0_0 l0_0.length c0_0) ∧ w'.cell? ⟨gb598, 1, none⟩ = some (.slice A0_1 l0_1.length c0_1)) (ds := []) (bl_ 9 0) (by kernel_rfl) rfl (by kernel_rfl) ⟨cz0_ BK598, cz1_ BK598⟩ (fun hHeld => ?_); refine with_tabW impl_UnturnSurface.tab3 impl_UnturnSurface.bits3 (fun HT_ HW_ => ?_)
    generalize w10.drew = w11 at BK598 BK599 HB hHeld ⊢
    refine pu_ 0 (some 8) (bl_ 9 1) HT_ ?_
    refine pu_ 3 (some 11) (bl_ 9 9) HT_ ?_
    refine ta_ 1 (some 9) (bl_ 9 11) HT_ HW_ hHeld ?_
    refine ta_ 4 (some 12) (bl_ 9 27) HT_ HW_ hHeld ?_
    refine on_ 2 (some 10) (bl_ 9 31) HT_ (fun K hK => ?_)
    refine gO_ Try.func100 #[.slice A0_1 l0_1.length c0_1] (by rfl) rfl rfl qa_ ?_
    with_reducible refine (impl_copyInts.calls _ _ l0_1 t601 _ (cb_ HR0_1) HC0_1.out A4.out).mono ?_
    rintro e w12 ⟨v602, rfl, ho0, hb⟩
    refine ⟨_, rfl, ?_⟩
    have HO603 := rl_ w ho0
    replace BK598 := bb_ BK598 hb
    replace BK599 := bb_ BK599 hb
    replace HB := b1_ hb
    clear hb ho0
    refine hK.out _ _ ⟨cz0_ BK598, cz1_ BK598⟩ (fun hHeld => ?_)
    clear hK K
    refine no_ (some 10) ?_
    refine on_ 5 (some 13) (bl_ 9 63) HT_ (fun K hK => ?_)
    refine gO_ Try.func122 #[.slice A0_0 l0_0.length c0_0] (by rfl) rfl rfl qa_ ?_
    with_reducible refine (impl_InversePerm.calls k _ _ l0_0 t604 _ (cb_ HR0_0) HC0_0.out A5.out).mono ?_
    rintro e w13 ⟨v605, rfl, ho0, hb⟩
    refine ⟨_, rfl, ?_⟩
    have HO606 := Aside0.mk (Kd.R_lower (Kd.R_new' ho0 (Kd.R_lt (rr_ HO603))) (below_size hB_))
    replace HO603 := Aside0.mk (Kd.R_elder' (rr_ HO603) (Kd.R_base ho0) hb)
    replace BK598 := bb_ BK598 hb
    replace BK599 := bb_ BK599 hb
    replace HB := b1_ hb
    clear hb ho0
    obtain ⟨Ao14, co14, eo14⟩ := Kd.R_slice HO606.out
    (first | subst eo14 | (injection eo14 with f1_ f2_ f3_; have f4_ := f1_.symm; have f5_ := f3_.symm; clear f1_ f2_ f3_; subst f4_; subst f5_))
    obtain ⟨Ao15, co15, eo15⟩ := Kd.R_slice HO603.out
    (first | subst eo15 | (injection eo15 with f1_ f2_ f3_; have f4_ := f1_.symm; have f5_ := f3_.symm; clear f1_ f2_ f3_; subst f4_; subst f5_))
    refine hK.out _ _ ⟨cz0_ BK598, cz1_ BK598⟩ (fun hHeld => ?_)
    clear hK K
    refine no_ (some 13) ?_
    refine pu_ 6 (some 14) (bl_ 9 127) HT_ ?_
    refine on_ 7 (none) (bl_ 9 255) HT_ (fun K hK => ?_)
    have hs16 : w13.cell? ⟨gb599, 0, none⟩ = some (.slice none 0 0) := cz0_ BK599
    have hfs16 := blk_frozen BK599.out 0
    have hns16_0 := NB598_599.out
    have hms16_0 := NB599_598.out
    have hs17 : w13.cell? ⟨gb599, 1, none⟩ = some (.slice none 0 0) := cz1_ BK599
    have hfs17 := blk_frozen BK599.out 1
    have hns17_0 := NB598_599.out
    have hms17_0 := NB599_598.out
    refine skip_ (w1 := ?_) (by rfl) rfl ?_ ?_
    rotate_left
    · go_simp
      rfl
    refine hK.out _ _ ⟨((cell_far (p := ⟨gb599, _, none⟩) NB598_599.out _).trans (((cell_far (p := ⟨gb599, _, none⟩) NB598_599.out _).trans (hHeld.1)))), ((cell_far (p := ⟨gb599, _, none⟩) NB598_599.out _).trans (((cell_far (p := ⟨gb599, _, none⟩) NB598_599.out _).trans (hHeld.2))))⟩ (fun hHeld => ?_)
    clear hK K
    refine pu_ 8 (some 3) (bl_ 9 511) HT_ ?_
    refine done_ (done_of HT_.out (by kernel_rfl)) ?_
    try go_wp2
    refine bodyPost_ret (results_ct rfl _ _ gb599 33 #[.slice Ao15 t601.length co15, .slice Ao14 t604.length co14] (0, 0) _ rfl qp_ Try.underlying33 rfl (by kernel_rfl)) rfl ?_
    exact ⟨_, _, qb_, (rw_ (Kd.R_mono (fa_ HO603 BK599) (fun _ hk => hk.2))), (rw_ (Kd.R_mono (fa_ HO606 BK599) (fun _ hk => hk.2))), hB_⟩
  · replace c3 := Bool.eq_false_iff.mpr c3
    subst c3
    have H1 : (some (([] : List Int), ([] : List Int), false)) = some (r1, r2, r3) := by rw [if_neg (show ¬ (false = true) by decide)] at H; exact H
    clear H
    have H := H1
    clear H1
    simp only [Option.some.injEq, Prod.mk.injEq] at H
    obtain ⟨rfl, rfl, rfl⟩ := H
    go_enter Try.func117, Try.ntmps117
    go_wp2_with (first | ((with_reducible refine gate_dst (N := 1) rfl ?_); refine bx_ 1 #[.slice A0_0 l0_0.length c0_0, .slice A0_1 l0_1.length c0_1] 33 ?_; intro gb598 hg w18 hbox hb; have BK598 := Aside0.mk hbox; have GW598 := gw_ w hg; have GE598 := GW598; replace HB := b1_ hb; clear hb hbox hg) | ((with_reducible refine gate_dst (N := 2) rfl ?_); refine bx_ 2 #[.slice none 0 0, .slice none 0 0] 33 ?_; intro gb599 hg w19 hbox hb; have BK599 := Aside0.mk hbox; have GW599 := gw_ w hg; have GE599 := GW599; replace HB := b1_ hb; have NB598_599 := gN_ BK598 hg; have NB599_598 := gP_ BK598 hg; replace BK598 := bb_ BK598 hb; clear hb hbox hg; have hnb20 := NB598_599.out; have hnc20 := NB599_598.out; obtain ⟨hcz21_0, hcz21_1, hfz21_0, hfz21_1⟩ := c2_ BK598) | ((with_reducible refine gate_callee (f := 19) rfl ?_); refine gL_ (some 5) Try.func19 #[.agg #[.slice A0_0 l0_0.length c0_0, .slice A0_1 l0_1.length c0_1]] rfl qa_ ?_; (with_reducible refine (impl_SurfaceOk.calls k _ _ l0_0 _ _ l0_1 false _ (cb_ HR0_0) HC0_0.out (cb_ HR0_1) HC0_1.out A2.out).mono ?_); rintro e w22 ⟨rfl, hb⟩; refine ⟨_, rfl, ?_⟩; replace BK598 := bb_ BK598 hb; replace BK599 := bb_ BK599 hb; replace HB := b1_ hb; clear hb; obtain ⟨hcz23_0, hcz23_1, hfz23_0, hfz23_1⟩ := c2_ BK599))
    refine bodyPost_ret (results_ct rfl _ _ gb599 33 #[.slice none 0 0, .slice none 0 0] (0, 0) _ rfl qp_ Try.underlying33 rfl (by kernel_rfl)) rfl ?_
    exact ⟨_, _, qb_, by first | exact Kd.R_nil _ _ _ _ _ | exact Kd.N_nil _ _ _ _ _ | exact Kd.V_nil _ _ _ _ _ | exact Kd.Q_nil _ _ _ _ _ | exact Kd.S_nil _ _ _ _ _, by first | exact Kd.R_nil _ _ _ _ _ | exact Kd.N_nil _ _ _ _ _ | exact Kd.V_nil _ _ _ _ _ | exact Kd.Q_nil _ _ _ _ _ | exact Kd.S_nil _ _ _ _ _, hB_⟩
end Go.Proofs.Ytoijcallajegfaa.A
end
section
namespace Go.Proofs.Ytoijcallajegfaa.A
open Go.RowKit Go.Proofs.YtoijcallajegfaaW.PrintWords Go.Proofs.YtoijcallajegfaaW.PrintLast Go.Proofs.YtoijcallajegfaaW.PrintMore
attribute [local go_sem] max2_int min2_int max_two min_two max_three min_three max_four min_four
set_option linter.unusedVariables false
set_option linter.unusedSimpArgs false
def impl_letterSurface.f (k : Nat) (l0_0 : List Int) (l0_1 : List Int) (a1 : Int) : Option (List Int × List Int) := if a1 = 84 then ((impl_ShearSurface.f k l0_0 l0_1).bind fun bt610 => (some (bt610.1, bt610.2.1))) else (if a1 = 116 then ((impl_UnshearSurface.f k l0_0 l0_1).bind fun bt617 => (some (bt617.1, bt617.2.1))) else (if a1 = 83 then ((impl_TurnSurface.f k l0_0 l0_1).bind fun bt624 => (some (bt624.1, bt624.2.1))) else (if a1 = 115 then ((impl_UnturnSurface.f k l0_0 l0_1).bind fun bt631 => (some (bt631.1, bt631.2.1))) else (some (([] : List Int), ([] : List Int))))))
theorem impl_letterSurface.mono : ∀ a0 a1 a2 k, LeO (impl_letterSurface.f k a0 a1 a2) (impl_letterSurface.f (k + 1) a0 a1 a2) := by
  intro a0 a1 a2 k
  unfold impl_letterSurface.f
  repeat' first|exact impl_ShearSurface.mono _ _ _|exact impl_TurnSurface.mono _ _ _|exact impl_UnshearSurface.mono _ _ _|exact impl_UnturnSurface.mono _ _ _|exact lo_|refine LeO.ite ?_ ?_|refine LeO.bind ?_ (fun _ => ?_)
set_option maxHeartbeats 8000000 in
set_option maxRecDepth 100000 in
theorem impl_letterSurface.calls (k : Nat) (A0_0 : Option Addr) (c0_0 : Nat) (l0_0 : List Int) (A0_1 : Option Addr) (c0_1 : Nat) (l0_1 : List Int) (a1 : Int) (r1 : List Int) (r2 : List Int) (w : World) (hr0_0 : Kd.C (Kd.int .i64) w A0_0 l0_0.length l0_0) (hc0_0 : l0_0.length ≤ c0_0) (hr0_1 : Kd.C (Kd.int .i64) w A0_1 l0_1.length l0_1) (hc0_1 : l0_1.length ≤ c0_1) (h : impl_letterSurface.f k l0_0 l0_1 a1 = some (r1, r2)) :
    Calls Try.prog 70 #[.agg #[.slice A0_0 l0_0.length c0_0, .slice A0_1 l0_1.length c0_1], .int .u8 a1] w fun e w' => ∃ v0_ v1_ : Value, e = .returned (.agg #[v0_, v1_]) ∧ Kd.R (Kd.int .i64) 3 w' w.heap.size (fun k_ => some k_ ≠ (v1_ : Value).ownBlock) v0_ r1 ∧ Kd.R (Kd.int .i64) 3 w' w.heap.size (fun k_ => some k_ ≠ (v0_ : Value).ownBlock) v1_ r2 ∧ Below w.heap.size w w' := by
  have hu33 := Try.underlying33
  have HR0_0 := Aside0.mk hr0_0
  have HC0_0 := Aside0.mk hc0_0
  clear hr0_0 hc0_0
  have HR0_1 := Aside0.mk hr0_1
  have HC0_1 := Aside0.mk hc0_1
  clear hr0_1 hc0_1
  have HB := Aside0.mk (Below.refl w.heap.size w)
  have H := h
  unfold impl_letterSurface.f at H
  clear h
  by_cases c3 : a1 = 84
  · rw [if_pos c3] at H
    have c3b0 : (a1 == 84) = true := beq_iff_eq.mpr c3
    have c3b1 : (a1 != 84) = false := bne_eq_false_iff_eq.mpr c3
    clear c3
    obtain ⟨⟨t610, t613, t616⟩, A4, H⟩ := bi_ H
    try dsimp only at H
    simp only [Option.some.injEq, Prod.mk.injEq] at H
    obtain ⟨rfl, rfl⟩ := H
    go_enter Try.func70, Try.ntmps70
    go_wp2_with (first | ((with_reducible refine gate_dst (N := 2) rfl ?_); refine bx_ 2 #[.slice A0_0 l0_0.length c0_0, .slice A0_1 l0_1.length c0_1] 33 ?_; intro gb607 hg w5 hbox hb; have BK607 := Aside0.mk hbox; have GW607 := gw_ w hg; have GE607 := GW607; replace HB := b1_ hb; clear hb hbox hg) | ((with_reducible refine gate_dst (N := 4) rfl ?_); refine bx_ 4 #[.slice none 0 0, .slice none 0 0] 33 ?_; intro gb608 hg w6 hbox hb; have BK608 := Aside0.mk hbox; have GW608 := gw_ w hg; have GE608 := GW608; replace HB := b1_ hb; have NB607_608 := gN_ BK607 hg; have NB608_607 := gP_ BK607 hg; replace BK607 := bb_ BK607 hb; clear hb hbox hg) | ((with_reducible refine gate_dst (N := 5) rfl ?_); refine bx_ 5 #[.slice none 0 0, .slice none 0 0] 33 ?_; intro gb609 hg w7 hbox hb; have BK609 := Aside0.mk hbox; have GW609 := gw_ w hg; have GE609 := GW609; replace HB := b1_ hb; have NB607_609 := gN_ BK607 hg; have NB609_607 := gP_ BK607 hg; replace BK607 := bb_ BK607 hb; have NB608_609 := gN_ BK608 hg; have NB609_608 := gP_ BK608 hg; replace BK608 := bb_ BK608 hb; clear hb hbox hg; have hnb8 := NB609_607.out; have hnc8 := NB607_609.out; have hnb9 := NB609_608.out; have hnc9 := NB608_609.out; obtain ⟨hcz10_0, hcz10_1, hfz10_0, hfz10_1⟩ := c2_ BK609; have hnb11 := NB607_608.out; have hnc11 := NB608_607.out; obtain ⟨hcz12_0, hcz12_1, hfz12_0, hfz12_1⟩ := c2_ BK607) | ((with_reducible refine gate_callee (f := 114) rfl ?_); refine gL_ (some 12) Try.func114 #[.agg #[.slice A0_0 l0_0.length c0_0, .slice A0_1 l0_1.length c0_1]] rfl qa_ ?_; (with_reducible refine (impl_ShearSurface.calls k _ _ l0_0 _ _ l0_1 t610 t613 t616 _ (Kd.C_below HR0_0.out hB_) HC0_0.out (Kd.C_below HR0_1.out hB_) HC0_1.out A4.out).mono ?_); rintro e w13 ⟨v611, v614, rfl, ho0, ho1, hb⟩; refine ⟨_, rfl, ?_⟩; have HO612 := rl_ w ho0; have HO615 := rl_ w ho1; replace BK607 := Aside0.mk (blk_below (g := gb607) (o := .cells #[.slice A0_0 l0_0.length c0_0, .slice A0_1 l0_1.length c0_1] 33 (0, 0)) (by (with_reducible repeat (first | refine blk_drewN ?_ _ | refine blk_drew ?_ | refine blk_alloc ?_ _)); refine blk_far ?_ NB607_609.out _; (with_reducible repeat (first | refine blk_drewN ?_ _ | refine blk_drew ?_ | refine blk_alloc ?_ _)); refine blk_far ?_ NB607_609.out _; (with_reducible repeat (first | refine blk_drewN ?_ _ | refine blk_drew ?_ | refine blk_alloc ?_ _)); exact BK607.out) hb); replace BK608 := Aside0.mk (blk_below (g := gb608) (o := .cells #[.slice none 0 0, .slice none 0 0] 33 (0, 0)) (by (with_reducible repeat (first | refine blk_drewN ?_ _ | refine blk_drew ?_ | refine blk_alloc ?_ _)); refine blk_far ?_ NB608_609.out _; (with_reducible repeat (first | refine blk_drewN ?_ _ | refine blk_drew ?_ | refine blk_alloc ?_ _)); refine blk_far ?_ NB608_609.out _; (with_reducible repeat (first | refine blk_drewN ?_ _ | refine blk_drew ?_ | refine blk_alloc ?_ _)); exact BK608.out) hb); replace BK609 := Aside0.mk (blk_below (g := gb609) (o := .cells #[.slice none 0 0, .slice none 0 0] 33 (0, 0)) qp_ hb); replace HB := b1_ hb; clear hb ho0 ho1; obtain ⟨Ao14, co14, eo14⟩ := Kd.R_slice HO612.out; subst eo14; obtain ⟨hcz15_0, hcz15_1, hfz15_0, hfz15_1⟩ := c2_ BK609; obtain ⟨Ao16, co16, eo16⟩ := Kd.R_slice HO615.out; subst eo16; obtain ⟨hcz17_0, hcz17_1, hfz17_0, hfz17_1⟩ := c2_ BK608))
    refine bodyPost_ret (results_cell_row rfl _ _ gb608 33 #[.slice Ao14 t610.length co14, .slice Ao16 t613.length co16] (0, 0) _ rfl (by (with_reducible repeat (first | refine blk_drewN ?_ _ | refine blk_drew ?_ | refine blk_alloc ?_ _)); refine blk_put (cs := #[.slice Ao14 t610.length co14, .slice none 0 0]) ?_ 1 _ rfl; (with_reducible repeat (first | refine blk_drewN ?_ _ | refine blk_drew ?_ | refine blk_alloc ?_ _)); refine blk_put (cs := #[.slice none 0 0, .slice none 0 0]) ?_ 0 _ rfl; (with_reducible repeat (first | refine blk_drewN ?_ _ | refine blk_drew ?_ | refine blk_alloc ?_ _)); refine blk_far ?_ NB608_609.out _; (with_reducible repeat (first | refine blk_drewN ?_ _ | refine blk_drew ?_ | refine blk_alloc ?_ _)); refine blk_far ?_ NB608_609.out _; (with_reducible repeat (first | refine blk_drewN ?_ _ | refine blk_drew ?_ | refine blk_alloc ?_ _)); exact BK608.out) Try.underlying33 rfl (by kernel_rfl)) rfl ?_
    exact ⟨_, _, qb_, (rw_ (Kd.R_mono (Kd.R_far (p := ⟨gb608, 1, none⟩) (Kd.R_far (p := ⟨gb608, 0, none⟩) (Kd.R_far (p := ⟨gb609, 1, none⟩) (Kd.R_far (p := ⟨gb609, 0, none⟩) (Kd.R_types (Kd.R_types HO612.out BK609.out (by decide)) BK608.out (by decide)) (fun _ hk => hk.1.2) (.slice Ao14 t610.length co14)) (fun _ hk => hk.1.2) (.slice Ao16 t613.length co16)) (fun _ hk => hk.2) (.slice Ao14 t610.length co14)) (fun _ hk => hk.2) (.slice Ao16 t613.length co16)) (fun _ hk => hk.1.1))), (rw_ (Kd.R_mono (Kd.R_far (p := ⟨gb608, 1, none⟩) (Kd.R_far (p := ⟨gb608, 0, none⟩) (Kd.R_far (p := ⟨gb609, 1, none⟩) (Kd.R_far (p := ⟨gb609, 0, none⟩) (Kd.R_types (Kd.R_types HO615.out BK609.out (by decide)) BK608.out (by decide)) (fun _ hk => hk.1.2) (.slice Ao14 t610.length co14)) (fun _ hk => hk.1.2) (.slice Ao16 t613.length co16)) (fun _ hk => hk.2) (.slice Ao14 t610.length co14)) (fun _ hk => hk.2) (.slice Ao16 t613.length co16)) (fun _ hk => hk.1.1))), hB_⟩
  · rw [if_neg c3] at H
    have c3b0 : (a1 == 84) = false := beq_eq_false_iff_ne.mpr c3
    have c3b1 : (a1 != 84) = true := bne_iff_ne.mpr c3
    by_cases c18 : a1 = 116
    · rw [if_pos c18] at H
      have c18b0 : (a1 == 116) = true := beq_iff_eq.mpr c18
      have c18b1 : (a1 != 116) = false := bne_eq_false_iff_eq.mpr c18
      clear c18
      obtain ⟨⟨t617, t620, t623⟩, A19, H⟩ := bi_ H
      try dsimp only at H
      simp only [Option.some.injEq, Prod.mk.injEq] at H
      obtain ⟨rfl, rfl⟩ := H
      go_enter Try.func70, Try.ntmps70
      go_wp2_with (first | ((with_reducible refine gate_dst (N := 2) rfl ?_); refine bx_ 2 #[.slice A0_0 l0_0.length c0_0, .slice A0_1 l0_1.length c0_1] 33 ?_; intro gb607 hg w20 hbox hb; have BK607 := Aside0.mk hbox; have GW607 := gw_ w hg; have GE607 := GW607; replace HB := b1_ hb; clear hb hbox hg) | ((with_reducible refine gate_dst (N := 4) rfl ?_); refine bx_ 4 #[.slice none 0 0, .slice none 0 0] 33 ?_; intro gb608 hg w21 hbox hb; have BK608 := Aside0.mk hbox; have GW608 := gw_ w hg; have GE608 := GW608; replace HB := b1_ hb; have NB607_608 := gN_ BK607 hg; have NB608_607 := gP_ BK607 hg; replace BK607 := bb_ BK607 hb; clear hb hbox hg) | ((with_reducible refine gate_dst (N := 5) rfl ?_); refine bx_ 5 #[.slice none 0 0, .slice none 0 0] 33 ?_; intro gb609 hg w22 hbox hb; have BK609 := Aside0.mk hbox; have GW609 := gw_ w hg; have GE609 := GW609; replace HB := b1_ hb; have NB607_609 := gN_ BK607 hg; have NB609_607 := gP_ BK607 hg; replace BK607 := bb_ BK607 hb; have NB608_609 := gN_ BK608 hg; have NB609_608 := gP_ BK608 hg; replace BK608 := bb_ BK608 hb; clear hb hbox hg; have hnb23 := NB609_607.out; have hnc23 := NB607_609.out; have hnb24 := NB609_608.out; have hnc24 := NB608_609.out; obtain ⟨hcz25_0, hcz25_1, hfz25_0, hfz25_1⟩ := c2_ BK609; have hnb26 := NB607_608.out; have hnc26 := NB608_607.out; obtain ⟨hcz27_0, hcz27_1, hfz27_0, hfz27_1⟩ := c2_ BK607) | ((with_reducible refine gate_callee (f := 115) rfl ?_); refine gL_ (some 19) Try.func115 #[.agg #[.slice A0_0 l0_0.length c0_0, .slice A0_1 l0_1.length c0_1]] rfl qa_ ?_; (with_reducible refine (impl_UnshearSurface.calls k _ _ l0_0 _ _ l0_1 t617 t620 t623 _ (Kd.C_below HR0_0.out hB_) HC0_0.out (Kd.C_below HR0_1.out hB_) HC0_1.out A19.out).mono ?_); rintro e w28 ⟨v618, v621, rfl, ho0, ho1, hb⟩; refine ⟨_, rfl, ?_⟩; have HO619 := rl_ w ho0; have HO622 := rl_ w ho1; replace BK607 := Aside0.mk (blk_below (g := gb607) (o := .cells #[.slice A0_0 l0_0.length c0_0, .slice A0_1 l0_1.length c0_1] 33 (0, 0)) (by (with_reducible repeat (first | refine blk_drewN ?_ _ | refine blk_drew ?_ | refine blk_alloc ?_ _)); refine blk_far ?_ NB607_609.out _; (with_reducible repeat (first | refine blk_drewN ?_ _ | refine blk_drew ?_ | refine blk_alloc ?_ _)); refine blk_far ?_ NB607_609.out _; (with_reducible repeat (first | refine blk_drewN ?_ _ | refine blk_drew ?_ | refine blk_alloc ?_ _)); exact BK607.out) hb); replace BK608 := Aside0.mk (blk_below (g := gb608) (o := .cells #[.slice none 0 0, .slice none 0 0] 33 (0, 0)) (by (with_reducible repeat (first | refine blk_drewN ?_ _ | refine blk_drew ?_ | refine blk_alloc ?_ _)); refine blk_far ?_ NB608_609.out _; (with_reducible repeat (first | refine blk_drewN ?_ _ | refine blk_drew ?_ | refine blk_alloc ?_ _)); refine blk_far ?_ NB608_609.out _; (with_reducible repeat (first | refine blk_drewN ?_ _ | refine blk_drew ?_ | refine blk_alloc ?_ _)); exact BK608.out) hb); replace BK609 := Aside0.mk (blk_below (g := gb609) (o := .cells #[.slice none 0 0, .slice none 0 0] 33 (0, 0)) qp_ hb); replace HB := b1_ hb; clear hb ho0 ho1; obtain ⟨Ao29, co29, eo29⟩ := Kd.R_slice HO619.out; subst eo29; obtain ⟨hcz30_0, hcz30_1, hfz30_0, hfz30_1⟩ := c2_ BK609; obtain ⟨Ao31, co31, eo31⟩ := Kd.R_slice HO622.out; subst eo31; obtain ⟨hcz32_0, hcz32_1, hfz32_0, hfz32_1⟩ := c2_ BK608))
      refine bodyPost_ret (results_cell_row rfl _ _ gb608 33 #[.slice Ao29 t617.length co29, .slice Ao31 t620.length co31] (0, 0) _ rfl (by (with_reducible repeat (first | refine blk_drewN ?_ _ | refine blk_drew ?_ | refine blk_alloc ?_ _)); refine blk_put (cs := #[.slice Ao29 t617.length co29, .slice none 0 0]) ?_ 1 _ rfl; (with_reducible repeat (first | refine blk_drewN ?_ _ | refine blk_drew ?_ | refine blk_alloc ?_ _)); refine blk_put (cs := #[.slice none 0 0, .slice none 0 0]) ?_ 0 _ rfl; (with_reducible repeat (first | refine blk_drewN ?_ _ | refine blk_drew ?_ | refine blk_alloc ?_ _)); refine blk_far ?_ NB608_609.out _; (with_reducible repeat (first | refine blk_drewN ?_ _ | refine blk_drew ?_ | refine blk_alloc ?_ _)); refine blk_far ?_ NB608_609.out _; (with_reducible repeat (first | refine blk_drewN ?_ _ | refine blk_drew ?_ | refine blk_alloc ?_ _)); exact BK608.out) Try.underlying33 rfl (by kernel_rfl)) rfl ?_
      exact ⟨_, _, qb_, (rw_ (Kd.R_mono (Kd.R_far (p := ⟨gb608, 1, none⟩) (Kd.R_far (p := ⟨gb608, 0, none⟩) (Kd.R_far (p := ⟨gb609, 1, none⟩) (Kd.R_far (p := ⟨gb609, 0, none⟩) (Kd.R_types (Kd.R_types HO619.out BK609.out (by decide)) BK608.out (by decide)) (fun _ hk => hk.1.2) (.slice Ao29 t617.length co29)) (fun _ hk => hk.1.2) (.slice Ao31 t620.length co31)) (fun _ hk => hk.2) (.slice Ao29 t617.length co29)) (fun _ hk => hk.2) (.slice Ao31 t620.length co31)) (fun _ hk => hk.1.1))), (rw_ (Kd.R_mono (Kd.R_far (p := ⟨gb608, 1, none⟩) (Kd.R_far (p := ⟨gb608, 0, none⟩) (Kd.R_far (p := ⟨gb609, 1, none⟩) (Kd.R_far (p := ⟨gb609, 0, none⟩) (Kd.R_types (Kd.R_types HO622.out BK609.out (by decide)) BK608.out (by decide)) (fun _ hk => hk.1.2) (.slice Ao29 t617.length co29)) (fun _ hk => hk.1.2) (.slice Ao31 t620.length co31)) (fun _ hk => hk.2) (.slice Ao29 t617.length co29)) (fun _ hk => hk.2) (.slice Ao31 t620.length co31)) (fun _ hk => hk.1.1))), hB_⟩
    · rw [if_neg c18] at H
      have c18b0 : (a1 == 116) = false := beq_eq_false_iff_ne.mpr c18
      have c18b1 : (a1 != 116) = true := bne_iff_ne.mpr c18
      by_cases c33 : a1 = 83
      · rw [if_pos c33] at H
        have c33b0 : (a1 == 83) = true := beq_iff_eq.mpr c33
        have c33b1 : (a1 != 83) = false := bne_eq_false_iff_eq.mpr c33
        clear c33
        obtain ⟨⟨t624, t627, t630⟩, A34, H⟩ := bi_ H
        try dsimp only at H
        simp only [Option.some.injEq, Prod.mk.injEq] at H
        obtain ⟨rfl, rfl⟩ := H
        go_enter Try.func70, Try.ntmps70
        go_wp2_with (first | ((with_reducible refine gate_dst (N := 2) rfl ?_); refine bx_ 2 #[.slice A0_0 l0_0.length c0_0, .slice A0_1 l0_1.length c0_1] 33 ?_; intro gb607 hg w35 hbox hb; have BK607 := Aside0.mk hbox; have GW607 := gw_ w hg; have GE607 := GW607; replace HB := b1_ hb; clear hb hbox hg) | ((with_reducible refine gate_dst (N := 4) rfl ?_); refine bx_ 4 #[.slice none 0 0, .slice none 0 0] 33 ?_; intro gb608 hg w36 hbox hb; have BK608 := Aside0.mk hbox; have GW608 := gw_ w hg; have GE608 := GW608; replace HB := b1_ hb; have NB607_608 := gN_ BK607 hg; have NB608_607 := gP_ BK607 hg; replace BK607 := bb_ BK607 hb; clear hb hbox hg) | ((with_reducible refine gate_dst (N := 5) rfl ?_); refine bx_ 5 #[.slice none 0 0, .slice none 0 0] 33 ?_; intro gb609 hg w37 hbox hb; have BK609 := Aside0.mk hbox; have GW609 := gw_ w hg; have GE609 := GW609; replace HB := b1_ hb; have NB607_609 := gN_ BK607 hg; have NB609_607 := gP_ BK607 hg; replace BK607 := bb_ BK607 hb; have NB608_609 := gN_ BK608 hg; have NB609_608 := gP_ BK608 hg; replace BK608 := bb_ BK608 hb; clear hb hbox hg; have hnb38 := NB609_607.out; have hnc38 := NB607_609.out; have hnb39 := NB609_608.out; have hnc39 := NB608_609.out; obtain ⟨hcz40_0, hcz40_1, hfz40_0, hfz40_1⟩ := c2_ BK609; have hnb41 := NB607_608.out; have hnc41 := NB608_607.out; obtain ⟨hcz42_0, hcz42_1, hfz42_0, hfz42_1⟩ := c2_ BK607) | ((with_reducible refine gate_callee (f := 116) rfl ?_); refine gL_ (some 26) Try.func116 #[.agg #[.slice A0_0 l0_0.length c0_0, .slice A0_1 l0_1.length c0_1]] rfl qa_ ?_; (with_reducible refine (impl_TurnSurface.calls k _ _ l0_0 _ _ l0_1 t624 t627 t630 _ (Kd.C_below HR0_0.out hB_) HC0_0.out (Kd.C_below HR0_1.out hB_) HC0_1.out A34.out).mono ?_); rintro e w43 ⟨v625, v628, rfl, ho0, ho1, hb⟩; refine ⟨_, rfl, ?_⟩; have HO626 := rl_ w ho0; have HO629 := rl_ w ho1; replace BK607 := Aside0.mk (blk_below (g := gb607) (o := .cells #[.slice A0_0 l0_0.length c0_0, .slice A0_1 l0_1.length c0_1] 33 (0, 0)) (by (with_reducible repeat (first | refine blk_drewN ?_ _ | refine blk_drew ?_ | refine blk_alloc ?_ _)); refine blk_far ?_ NB607_609.out _; (with_reducible repeat (first | refine blk_drewN ?_ _ | refine blk_drew ?_ | refine blk_alloc ?_ _)); refine blk_far ?_ NB607_609.out _; (with_reducible repeat (first | refine blk_drewN ?_ _ | refine blk_drew ?_ | refine blk_alloc ?_ _)); exact BK607.out) hb); replace BK608 := Aside0.mk (blk_below (g := gb608) (o := .cells #[.slice none 0 0, .slice none 0 0] 33 (0, 0)) (by (with_reducible repeat (first | refine blk_drewN ?_ _ | refine blk_drew ?_ | refine blk_alloc ?_ _)); refine blk_far ?_ NB608_609.out _; (with_reducible repeat (first | refine blk_drewN ?_ _ | refine blk_drew ?_ | refine blk_alloc ?_ _)); refine blk_far ?_ NB608_609.out _; (with_reducible repeat (first | refine blk_drewN ?_ _ | refine blk_drew ?_ | refine blk_alloc ?_ _)); exact BK608.out) hb); replace BK609 := Aside0.mk (blk_below (g := gb609) (o := .cells #[.slice none 0 0, .slice none 0 0] 33 (0, 0)) qp_ hb); replace HB := b1_ hb; clear hb ho0 ho1; obtain ⟨Ao44, co44, eo44⟩ := Kd.R_slice HO626.out; subst eo44; obtain ⟨hcz45_0, hcz45_1, hfz45_0, hfz45_1⟩ := c2_ BK609; obtain ⟨Ao46, co46, eo46⟩ := Kd.R_slice HO629.out; subst eo46; obtain ⟨hcz47_0, hcz47_1, hfz47_0, hfz47_1⟩ := c2_ BK608))
        refine bodyPost_ret (results_cell_row rfl _ _ gb608 33 #[.slice Ao44 t624.length co44, .slice Ao46 t627.length co46] (0, 0) _ rfl (by (with_reducible repeat (first | refine blk_drewN ?_ _ | refine blk_drew ?_ | refine blk_alloc ?_ _)); refine blk_put (cs := #[.slice Ao44 t624.length co44, .slice none 0 0]) ?_ 1 _ rfl; (with_reducible repeat (first | refine blk_drewN ?_ _ | refine blk_drew ?_ | refine blk_alloc ?_ _)); refine blk_put (cs := #[.slice none 0 0, .slice none 0 0]) ?_ 0 _ rfl; (with_reducible repeat (first | refine blk_drewN ?_ _ | refine blk_drew ?_ | refine blk_alloc ?_ _)); refine blk_far ?_ NB608_609.out _; (with_reducible repeat (first | refine blk_drewN ?_ _ | refine blk_drew ?_ | refine blk_alloc ?_ _)); refine blk_far ?_ NB608_609.out _; (with_reducible repeat (first | refine blk_drewN ?_ _ | refine blk_drew ?_ | refine blk_alloc ?_ _)); exact BK608.out) Try.underlying33 rfl (by kernel_rfl)) rfl ?_
        exact ⟨_, _, qb_, (rw_ (Kd.R_mono (Kd.R_far (p := ⟨gb608, 1, none⟩) (Kd.R_far (p := ⟨gb608, 0, none⟩) (Kd.R_far (p := ⟨gb609, 1, none⟩) (Kd.R_far (p := ⟨gb609, 0, none⟩) (Kd.R_types (Kd.R_types HO626.out BK609.out (by decide)) BK608.out (by decide)) (fun _ hk => hk.1.2) (.slice Ao44 t624.length co44)) (fun _ hk => hk.1.2) (.slice Ao46 t627.length co46)) (fun _ hk => hk.2) (.slice Ao44 t624.length co44)) (fun _ hk => hk.2) (.slice Ao46 t627.length co46)) (fun _ hk => hk.1.1))), (rw_ (Kd.R_mono (Kd.R_far (p := ⟨gb608, 1, none⟩) (Kd.R_far (p := ⟨gb608, 0, none⟩) (Kd.R_far (p := ⟨gb609, 1, none⟩) (Kd.R_far (p := ⟨gb609, 0, none⟩) (Kd.R_types (Kd.R_types HO629.out BK609.out (by decide)) BK608.out (by decide)) (fun _ hk => hk.1.2) (.slice Ao44 t624.length co44)) (fun _ hk => hk.1.2) (.slice Ao46 t627.length co46)) (fun _ hk => hk.2) (.slice Ao44 t624.length co44)) (fun _ hk => hk.2) (.slice Ao46 t627.length co46)) (fun _ hk => hk.1.1))), hB_⟩
      · rw [if_neg c33] at H
        have c33b0 : (a1 == 83) = false := beq_eq_false_iff_ne.mpr c33
        have c33b1 : (a1 != 83) = true := bne_iff_ne.mpr c33
        by_cases c48 : a1 = 115
        · rw [if_pos c48] at H
          have c48b0 : (a1 == 115) = true := beq_iff_eq.mpr c48
          have c48b1 : (a1 != 115) = false := bne_eq_false_iff_eq.mpr c48
          clear c48
          obtain ⟨⟨t631, t634, t637⟩, A49, H⟩ := bi_ H
          try dsimp only at H
          simp only [Option.some.injEq, Prod.mk.injEq] at H
          obtain ⟨rfl, rfl⟩ := H
          go_enter Try.func70, Try.ntmps70
          go_wp2_with (first | ((with_reducible refine gate_dst (N := 2) rfl ?_); refine bx_ 2 #[.slice A0_0 l0_0.length c0_0, .slice A0_1 l0_1.length c0_1] 33 ?_; intro gb607 hg w50 hbox hb; have BK607 := Aside0.mk hbox; have GW607 := gw_ w hg; have GE607 := GW607; replace HB := b1_ hb; clear hb hbox hg) | ((with_reducible refine gate_dst (N := 4) rfl ?_); refine bx_ 4 #[.slice none 0 0, .slice none 0 0] 33 ?_; intro gb608 hg w51 hbox hb; have BK608 := Aside0.mk hbox; have GW608 := gw_ w hg; have GE608 := GW608; replace HB := b1_ hb; have NB607_608 := gN_ BK607 hg; have NB608_607 := gP_ BK607 hg; replace BK607 := bb_ BK607 hb; clear hb hbox hg) | ((with_reducible refine gate_dst (N := 5) rfl ?_); refine bx_ 5 #[.slice none 0 0, .slice none 0 0] 33 ?_; intro gb609 hg w52 hbox hb; have BK609 := Aside0.mk hbox; have GW609 := gw_ w hg; have GE609 := GW609; replace HB := b1_ hb; have NB607_609 := gN_ BK607 hg; have NB609_607 := gP_ BK607 hg; replace BK607 := bb_ BK607 hb; have NB608_609 := gN_ BK608 hg; have NB609_608 := gP_ BK608 hg; replace BK608 := bb_ BK608 hb; clear hb hbox hg; have hnb53 := NB609_607.out; have hnc53 := NB607_609.out; have hnb54 := NB609_608.out; have hnc54 := NB608_609.out; obtain ⟨hcz55_0, hcz55_1, hfz55_0, hfz55_1⟩ := c2_ BK609; have hnb56 := NB607_608.out; have hnc56 := NB608_607.out; obtain ⟨hcz57_0, hcz57_1, hfz57_0, hfz57_1⟩ := c2_ BK607) | ((with_reducible refine gate_callee (f := 117) rfl ?_); refine gL_ (some 33) Try.func117 #[.agg #[.slice A0_0 l0_0.length c0_0, .slice A0_1 l0_1.length c0_1]] rfl qa_ ?_; (with_reducible refine (impl_UnturnSurface.calls k _ _ l0_0 _ _ l0_1 t631 t634 t637 _ (Kd.C_below HR0_0.out hB_) HC0_0.out (Kd.C_below HR0_1.out hB_) HC0_1.out A49.out).mono ?_); rintro e w58 ⟨v632, v635, rfl, ho0, ho1, hb⟩; refine ⟨_, rfl, ?_⟩; have HO633 := rl_ w ho0; have HO636 := rl_ w ho1; replace BK607 := Aside0.mk (blk_below (g := gb607) (o := .cells #[.slice A0_0 l0_0.length c0_0, .slice A0_1 l0_1.length c0_1] 33 (0, 0)) (by (with_reducible repeat (first | refine blk_drewN ?_ _ | refine blk_drew ?_ | refine blk_alloc ?_ _)); refine blk_far ?_ NB607_609.out _; (with_reducible repeat (first | refine blk_drewN ?_ _ | refine blk_drew ?_ | refine blk_alloc ?_ _)); refine blk_far ?_ NB607_609.out _; (with_reducible repeat (first | refine blk_drewN ?_ _ | refine blk_drew ?_ | refine blk_alloc ?_ _)); exact BK607.out) hb); replace BK608 := Aside0.mk (blk_below (g := gb608) (o := .cells #[.slice none 0 0, .slice none 0 0] 33 (0, 0)) (by (with_reducible repeat (first | refine blk_drewN ?_ _ | refine blk_drew ?_ | refine blk_alloc ?_ _)); refine blk_far ?_ NB608_609.out _; (with_reducible repeat (first | refine blk_drewN ?_ _ | refine blk_drew ?_ | refine blk_alloc ?_ _)); refine blk_far ?_ NB608_609.out _; (with_reducible repeat (first | refine blk_drewN ?_ _ | refine blk_drew ?_ | refine blk_alloc ?_ _)); exact BK608.out) hb); replace BK609 := Aside0.mk (blk_below (g := gb609) (o := .cells #[.slice none 0 0, .slice none 0 0] 33 (0, 0)) qp_ hb); replace HB := b1_ hb; clear hb ho0 ho1; obtain ⟨Ao59, co59, eo59⟩ := Kd.R_slice HO633.out; subst eo59; obtain ⟨hcz60_0, hcz60_1, hfz60_0, hfz60_1⟩ := c2_ BK609; obtain ⟨Ao61, co61, eo61⟩ := Kd.R_slice HO636.out; subst eo61; obtain ⟨hcz62_0, hcz62_1, hfz62_0, hfz62_1⟩ := c2_ BK608))
          refine bodyPost_ret (results_cell_row rfl _ _ gb608 33 #[.slice Ao59 t631.length co59, .slice Ao61 t634.length co61] (0, 0) _ rfl (by (with_reducible repeat (first | refine blk_drewN ?_ _ | refine blk_drew ?_ | refine blk_alloc ?_ _)); refine blk_put (cs := #[.slice Ao59 t631.length co59, .slice none 0 0]) ?_ 1 _ rfl; (with_reducible repeat (first | refine blk_drewN ?_ _ | refine blk_drew ?_ | refine blk_alloc ?_ _)); refine blk_put (cs := #[.slice none 0 0, .slice none 0 0]) ?_ 0 _ rfl; (with_reducible repeat (first | refine blk_drewN ?_ _ | refine blk_drew ?_ | refine blk_alloc ?_ _)); refine blk_far ?_ NB608_609.out _; (with_reducible repeat (first | refine blk_drewN ?_ _ | refine blk_drew ?_ | refine blk_alloc ?_ _)); refine blk_far ?_ NB608_609.out _; (with_reducible repeat (first | refine blk_drewN ?_ _ | refine blk_drew ?_ | refine blk_alloc ?_ _)); exact BK608.out) Try.underlying33 rfl (by kernel_rfl)) rfl ?_
          exact ⟨_, _, qb_, (rw_ (Kd.R_mono (Kd.R_far (p := ⟨gb608, 1, none⟩) (Kd.R_far (p := ⟨gb608, 0, none⟩) (Kd.R_far (p := ⟨gb609, 1, none⟩) (Kd.R_far (p := ⟨gb609, 0, none⟩) (Kd.R_types (Kd.R_types HO633.out BK609.out (by decide)) BK608.out (by decide)) (fun _ hk => hk.1.2) (.slice Ao59 t631.length co59)) (fun _ hk => hk.1.2) (.slice Ao61 t634.length co61)) (fun _ hk => hk.2) (.slice Ao59 t631.length co59)) (fun _ hk => hk.2) (.slice Ao61 t634.length co61)) (fun _ hk => hk.1.1))), (rw_ (Kd.R_mono (Kd.R_far (p := ⟨gb608, 1, none⟩) (Kd.R_far (p := ⟨gb608, 0, none⟩) (Kd.R_far (p := ⟨gb609, 1, none⟩) (Kd.R_far (p := ⟨gb609, 0, none⟩) (Kd.R_types (Kd.R_types HO636.out BK609.out (by decide)) BK608.out (by decide)) (fun _ hk => hk.1.2) (.slice Ao59 t631.length co59)) (fun _ hk => hk.1.2) (.slice Ao61 t634.length co61)) (fun _ hk => hk.2) (.slice Ao59 t631.length co59)) (fun _ hk => hk.2) (.slice Ao61 t634.length co61)) (fun _ hk => hk.1.1))), hB_⟩
        · rw [if_neg c48] at H
          have c48b0 : (a1 == 115) = false := beq_eq_false_iff_ne.mpr c48
          have c48b1 : (a1 != 115) = true := bne_iff_ne.mpr c48
          simp only [Option.some.injEq, Prod.mk.injEq] at H
          obtain ⟨rfl, rfl⟩ := H
          go_enter Try.func70, Try.ntmps70
          go_wp2_with (first | ((with_reducible refine gate_dst (N := 2) rfl ?_); refine bx_ 2 #[.slice A0_0 l0_0.length c0_0, .slice A0_1 l0_1.length c0_1] 33 ?_; intro gb607 hg w63 hbox hb; have BK607 := Aside0.mk hbox; have GW607 := gw_ w hg; have GE607 := GW607; replace HB := b1_ hb; clear hb hbox hg) | ((with_reducible refine gate_dst (N := 4) rfl ?_); refine bx_ 4 #[.slice none 0 0, .slice none 0 0] 33 ?_; intro gb608 hg w64 hbox hb; have BK608 := Aside0.mk hbox; have GW608 := gw_ w hg; have GE608 := GW608; replace HB := b1_ hb; have NB607_608 := gN_ BK607 hg; have NB608_607 := gP_ BK607 hg; replace BK607 := bb_ BK607 hb; clear hb hbox hg) | ((with_reducible refine gate_dst (N := 5) rfl ?_); refine bx_ 5 #[.slice none 0 0, .slice none 0 0] 33 ?_; intro gb609 hg w65 hbox hb; have BK609 := Aside0.mk hbox; have GW609 := gw_ w hg; have GE609 := GW609; replace HB := b1_ hb; have NB607_609 := gN_ BK607 hg; have NB609_607 := gP_ BK607 hg; replace BK607 := bb_ BK607 hb; have NB608_609 := gN_ BK608 hg; have NB609_608 := gP_ BK608 hg; replace BK608 := bb_ BK608 hb; clear hb hbox hg; have hnb66 := NB609_607.out; have hnc66 := NB607_609.out; have hnb67 := NB609_608.out; have hnc67 := NB608_609.out; obtain ⟨hcz68_0, hcz68_1, hfz68_0, hfz68_1⟩ := c2_ BK609; have hnb69 := NB608_607.out; have hnc69 := NB607_608.out; obtain ⟨hcz70_0, hcz70_1, hfz70_0, hfz70_1⟩ := c2_ BK608))
          refine bodyPost_ret (results_cell_row rfl _ _ gb608 33 #[.slice none 0 0, .slice none 0 0] (0, 0) _ rfl (by (with_reducible repeat (first | refine blk_drewN ?_ _ | refine blk_drew ?_ | refine blk_alloc ?_ _)); refine blk_put (cs := #[.slice none 0 0, .slice none 0 0]) ?_ 1 _ rfl; (with_reducible repeat (first | refine blk_drewN ?_ _ | refine blk_drew ?_ | refine blk_alloc ?_ _)); refine blk_put (cs := #[.slice none 0 0, .slice none 0 0]) ?_ 0 _ rfl; (with_reducible repeat (first | refine blk_drewN ?_ _ | refine blk_drew ?_ | refine blk_alloc ?_ _)); refine blk_far ?_ NB608_609.out _; (with_reducible repeat (first | refine blk_drewN ?_ _ | refine blk_drew ?_ | refine blk_alloc ?_ _)); refine blk_far ?_ NB608_609.out _; (with_reducible repeat (first | refine blk_drewN ?_ _ | refine blk_drew ?_ | refine blk_alloc ?_ _)); exact BK608.out) Try.underlying33 rfl (by kernel_rfl)) rfl ?_
          exact ⟨_, _, qb_, by first | exact Kd.R_nil _ _ _ _ _ | exact Kd.N_nil _ _ _ _ _ | exact Kd.V_nil _ _ _ _ _ | exact Kd.Q_nil _ _ _ _ _ | exact Kd.S_nil _ _ _ _ _, by first | exact Kd.R_nil _ _ _ _ _ | exact Kd.N_nil _ _ _ _ _ | exact Kd.V_nil _ _ _ _ _ | exact Kd.Q_nil _ _ _ _ _ | exact Kd.S_nil _ _ _ _ _, hB_⟩
end Go.Proofs.Ytoijcallajegfaa.A
end
section
namespace Go.Proofs.Ytoijcallajegfaa.A
open Go.RowKit Go.Proofs.YtoijcallajegfaaW.PrintWords Go.Proofs.YtoijcallajegfaaW.PrintLast Go.Proofs.YtoijcallajegfaaW.PrintMore
attribute [local go_sem] max2_int min2_int max_two min_two max_three min_three max_four min_four
set_option linter.unusedVariables false
set_option linter.unusedSimpArgs false
mutual
def impl_RunWord.j0 : Nat → ByteArray → Bool → List Int → List Int → Option (List Int × List Int × Bool)
  | 0, _, _, _, _ => none
  | k + 1, x1, x15, x639000, x639001 => if x15 = true then (some (([] : List Int), ([] : List Int), false)) else ((impl_copySurface.f x639000 x639001).bind fun bt642 => (impl_RunWord.l0 k x1 0 bt642.1 bt642.2))
def impl_RunWord.l0 : Nat → ByteArray → Int → List Int → List Int → Option (List Int × List Int × Bool)
  | 0, _, _, _, _ => none
  | k + 1, x1, x7, x649000, x649001 => if x7 < (x1.size : Int) then (if 0 ≤ x7 then ((impl_letterSurface.f k x649000 x649001 (bt x1 x7)).bind fun bt649 => (impl_RunWord.l0 k x1 (wrap64 (x7 + 1)) bt649.1 bt649.2)) else (none)) else (some (x649000, x649001, true))
end
def impl_RunWord.f (k : Nat) (l0_0 : List Int) (l0_1 : List Int) (a1 : ByteArray) : Option (List Int × List Int × Bool) := (impl_SurfaceOk.f k l0_0 l0_1).bind fun t640 => (if t640 = true then ((impl_WordOk.f k a1).bind fun t641 => (impl_RunWord.j0 k a1 (!t641) l0_0 l0_1)) else (impl_RunWord.j0 k a1 true l0_0 l0_1))
theorem impl_RunWord.mono_l : ∀ k, (∀ y0 y1 y2 y3, LeO (impl_RunWord.j0 k y0 y1 y2 y3) (impl_RunWord.j0 (k + 1) y0 y1 y2 y3)) ∧ (∀ y0 y1 y2 y3, LeO (impl_RunWord.l0 k y0 y1 y2 y3) (impl_RunWord.l0 (k + 1) y0 y1 y2 y3))
  | 0 => ⟨fun _ _ _ _ r h => by simp [impl_RunWord.j0] at h, fun _ _ _ _ r h => by simp [impl_RunWord.l0] at h⟩
  | k + 1 => by
    obtain ⟨ih0, ih1⟩ := impl_RunWord.mono_l k
    refine ⟨?_, ?_⟩
    · intro y0 y1 y2 y3
      unfold impl_RunWord.j0
      repeat' first|exact ih0 _ _ _ _|exact ih1 _ _ _ _|exact impl_SurfaceOk.mono _ _ _|exact impl_WordOk.mono _ _|exact impl_letterSurface.mono _ _ _ _|exact lo_|refine LeO.ite ?_ ?_|refine LeO.bind ?_ (fun _ => ?_)
    · intro y0 y1 y2 y3
      unfold impl_RunWord.l0
      repeat' first|exact ih0 _ _ _ _|exact ih1 _ _ _ _|exact impl_SurfaceOk.mono _ _ _|exact impl_WordOk.mono _ _|exact impl_letterSurface.mono _ _ _ _|exact lo_|refine LeO.ite ?_ ?_|refine LeO.bind ?_ (fun _ => ?_)
theorem impl_RunWord.mono : ∀ a0 a1 a2 k, LeO (impl_RunWord.f k a0 a1 a2) (impl_RunWord.f (k + 1) a0 a1 a2) := by
  intro a0 a1 a2 k
  obtain ⟨ih0, ih1⟩ := impl_RunWord.mono_l k
  unfold impl_RunWord.f
  repeat' first|exact ih0 _ _ _ _|exact ih1 _ _ _ _|exact impl_SurfaceOk.mono _ _ _|exact impl_WordOk.mono _ _|exact impl_letterSurface.mono _ _ _ _|exact lo_|refine LeO.ite ?_ ?_|refine LeO.bind ?_ (fun _ => ?_)
set_option maxHeartbeats 8000000 in
set_option maxRecDepth 100000 in
theorem impl_RunWord.calls (k : Nat) (A0_0 : Option Addr) (c0_0 : Nat) (l0_0 : List Int) (A0_1 : Option Addr) (c0_1 : Nat) (l0_1 : List Int) (a1 : ByteArray) (r1 : List Int) (r2 : List Int) (r3 : Bool) (w : World) (hr0_0 : Kd.C (Kd.int .i64) w A0_0 l0_0.length l0_0) (hc0_0 : l0_0.length ≤ c0_0) (hr0_1 : Kd.C (Kd.int .i64) w A0_1 l0_1.length l0_1) (hc0_1 : l0_1.length ≤ c0_1) (h : impl_RunWord.f k l0_0 l0_1 a1 = some (r1, r2, r3)) :
    Calls Try.prog 21 #[.agg #[.slice A0_0 l0_0.length c0_0, .slice A0_1 l0_1.length c0_1], .string a1] w fun e w' => ∃ v0_ v1_ : Value, e = .returned (.tuple #[.agg #[v0_, v1_], .bool r3]) ∧ Kd.R (Kd.int .i64) 3 w' w.heap.size (fun k_ => some k_ ≠ (v1_ : Value).ownBlock) v0_ r1 ∧ Kd.R (Kd.int .i64) 3 w' w.heap.size (fun k_ => some k_ ≠ (v0_ : Value).ownBlock) v1_ r2 ∧ Below w.heap.size w w' := by
  have hu33 := Try.underlying33
  have HR0_0 := Aside0.mk hr0_0
  have HC0_0 := Aside0.mk hc0_0
  clear hr0_0 hc0_0
  have HR0_1 := Aside0.mk hr0_1
  have HC0_1 := Aside0.mk hc0_1
  clear hr0_1 hc0_1
  have HB := Aside0.mk (Below.refl w.heap.size w)
  have H := h
  unfold impl_RunWord.f at H
  clear h
  have HC3 := Aside0.mk H
  clear H
  go_enter Try.func21, Try.ntmps21
  go_upto_region 1 with (first | ((with_reducible refine gate_dst (N := 2) rfl ?_); refine bx_ 2 #[.slice A0_0 l0_0.length c0_0, .slice A0_1 l0_1.length c0_1] 33 ?_; intro gb638 hg w4 hbox hb; have BK638 := Aside0.mk hbox; have GW638 := gw_ w hg; have GE638 := GW638; replace HB := b1_ hb; clear hb hbox hg) | ((with_reducible refine gate_dst (N := 4) rfl ?_); refine bx_ 4 #[.slice none 0 0, .slice none 0 0] 33 ?_; intro gb639 hg w5 hbox hb; have BK639 := Aside0.mk hbox; have GW639 := gw_ w hg; have GE639 := GW639; replace HB := b1_ hb; have NB638_639 := gN_ BK638 hg; have NB639_638 := gP_ BK638 hg; replace BK638 := bb_ BK638 hb; clear hb hbox hg))
  (try simp only [Act.put, List.setIfInBounds_toArray, List.set_cons_zero, List.set_cons_succ])
  go_cut [15] (fun v15 wc => ∃ (kq : Nat) (x15_2 : Bool), v15 = .bool x15_2 ∧ Aside0 (impl_RunWord.j0 kq a1 x15_2 l0_0 l0_1 = some (r1, r2, r3)) ∧ Aside0 (kq ≤ k) ∧ Aside0 (wc.heap[gb638]? = some (.cells #[(.slice A0_0 l0_0.length c0_0), (.slice A0_1 l0_1.length c0_1)] 33 (0, 0))) ∧ Aside0 (wc.heap[gb639]? = some (.cells #[(.slice none 0 0), (.slice none 0 0)] 33 (0, 0))) ∧ Aside0 (Below w.heap.size w wc))
  case first =>
    have H := HC3.out
    clear HC3
    obtain ⟨t640, A6, H⟩ := bi_ H
    by_cases c7 : t640 = true
    · subst c7
      rw [if_pos rfl] at H
      obtain ⟨t641, A8, H⟩ := bi_ H
      have H' := Aside0.mk H
      clear H
      have hnb9 := NB638_639.out
      have hnc9 := NB639_638.out
      obtain ⟨hcz10_0, hcz10_1, hfz10_0, hfz10_1⟩ := c2_ BK638
      go_wp2_with (first | ((with_reducible refine gate_callee (f := 19) rfl ?_); refine gL_ (some 9) Try.func19 #[.agg #[.slice A0_0 l0_0.length c0_0, .slice A0_1 l0_1.length c0_1]] rfl qa_ ?_; (with_reducible refine (impl_SurfaceOk.calls k _ _ l0_0 _ _ l0_1 true _ (cb_ HR0_0) HC0_0.out (cb_ HR0_1) HC0_1.out A6.out).mono ?_); rintro e w11 ⟨rfl, hb⟩; refine ⟨_, rfl, ?_⟩; replace BK638 := bb_ BK638 hb; replace BK639 := bb_ BK639 hb; replace HB := b1_ hb; clear hb) | (go_at_call 68; (with_reducible refine (impl_WordOk.calls k a1 t641 _ A8.out).mono ?_); rintro e w12 ⟨rfl, hb⟩; replace BK638 := bb_ BK638 hb; replace BK639 := bb_ BK639 hb; replace HB := b1_ hb; clear hb))
      go_meet
      case rel => exact ⟨_, (!t641), qc_, H', ⟨qd_⟩, ⟨(kk_ BK638)⟩, ⟨(kk_ BK639)⟩, ⟨hB_⟩⟩
    · replace c7 := Bool.eq_false_iff.mpr c7
      subst c7
      have H1 : (impl_RunWord.j0 k a1 true l0_0 l0_1) = some (r1, r2, r3) := by rw [if_neg (show ¬ (false = true) by decide)] at H; exact H
      clear H
      have H := H1
      clear H1
      have H' := Aside0.mk H
      clear H
      have hnb13 := NB638_639.out
      have hnc13 := NB639_638.out
      obtain ⟨hcz14_0, hcz14_1, hfz14_0, hfz14_1⟩ := c2_ BK638
      go_wp2_with (first | ((with_reducible refine gate_callee (f := 19) rfl ?_); refine gL_ (some 9) Try.func19 #[.agg #[.slice A0_0 l0_0.length c0_0, .slice A0_1 l0_1.length c0_1]] rfl qa_ ?_; (with_reducible refine (impl_SurfaceOk.calls k _ _ l0_0 _ _ l0_1 false _ (cb_ HR0_0) HC0_0.out (cb_ HR0_1) HC0_1.out A6.out).mono ?_); rintro e w15 ⟨rfl, hb⟩; refine ⟨_, rfl, ?_⟩; replace BK638 := bb_ BK638 hb; replace BK639 := bb_ BK639 hb; replace HB := b1_ hb; clear hb))
      go_meet
      case rel => exact ⟨_, (true), qc_, H', ⟨qd_⟩, ⟨(kk_ BK638)⟩, ⟨(kk_ BK639)⟩, ⟨hB_⟩⟩
  case rest =>
    clear HC3
    obtain ⟨kq, x15_2, rfl, HA, HJ2, BK638, BK639, HB⟩ := hcut
    cases kq with
    | zero => exact absurd HA.out (by simp [impl_RunWord.j0])
    | succ kj2 =>
      have H := HA.out
      clear HA
      simp only [impl_RunWord.j0] at H
      by_cases c16 : x15_2 = true
      · subst c16
        rw [if_pos rfl] at H
        simp only [Option.some.injEq, Prod.mk.injEq] at H
        obtain ⟨rfl, rfl, rfl⟩ := H
        have hnb17 := NB639_638.out
        have hnc17 := NB638_639.out
        obtain ⟨hcz18_0, hcz18_1, hfz18_0, hfz18_1⟩ := c2_ BK639
        go_wp2
        refine bodyPost_ret (results_ct rfl _ _ gb639 33 #[.slice none 0 0, .slice none 0 0] (0, 0) _ rfl qp_ Try.underlying33 rfl (by kernel_rfl)) rfl ?_
        exact ⟨_, _, qb_, by first | exact Kd.R_nil _ _ _ _ _ | exact Kd.N_nil _ _ _ _ _ | exact Kd.V_nil _ _ _ _ _ | exact Kd.Q_nil _ _ _ _ _ | exact Kd.S_nil _ _ _ _ _, by first | exact Kd.R_nil _ _ _ _ _ | exact Kd.N_nil _ _ _ _ _ | exact Kd.V_nil _ _ _ _ _ | exact Kd.Q_nil _ _ _ _ _ | exact Kd.S_nil _ _ _ _ _, hB_⟩
      · replace c16 := Bool.eq_false_iff.mpr c16
        subst c16
        have H1 : ((impl_copySurface.f l0_0 l0_1).bind fun bt642 => (impl_RunWord.l0 kj2 a1 0 bt642.1 bt642.2)) = some (r1, r2, r3) := by rw [if_neg (show ¬ (false = true) by decide)] at H; exact H
        clear H
        have H := H1
        clear H1
        obtain ⟨⟨t642, t645⟩, A19, H⟩ := bi_ H
        try dsimp only at H
        have H' := Aside0.mk H
        clear H
        have hnb20 := NB638_639.out
        have hnc20 := NB639_638.out
        obtain ⟨hcz21_0, hcz21_1, hfz21_0, hfz21_1⟩ := c2_ BK638
        go_wp2_with (first | ((with_reducible refine gate_callee (f := 69) rfl ?_); refine gL_ (some 18) Try.func69 #[.agg #[.slice A0_0 l0_0.length c0_0, .slice A0_1 l0_1.length c0_1]] rfl qa_ ?_; (with_reducible refine (impl_copySurface.calls _ _ l0_0 _ _ l0_1 t642 t645 _ (cb_ HR0_0) HC0_0.out (cb_ HR0_1) HC0_1.out A19.out).mono ?_); rintro e w22 ⟨v643, v646, rfl, ho0, ho1, hb⟩; refine ⟨_, rfl, ?_⟩; have HO644 := rl_ w ho0; have HO647 := rl_ w ho1; replace BK638 := bb_ BK638 hb; replace BK639 := bb_ BK639 hb; replace HB := b1_ hb; clear hb ho0 ho1) | ((with_reducible refine gate_dst (N := 6) rfl ?_); refine bx_ 6 #[.slice none 0 0, .slice none 0 0] 33 ?_; intro gb648 hg w23 hbox hb; replace HO644 := rb_ HO644 hb; replace HO647 := rb_ HO647 hb; have BK648 := Aside0.mk hbox; have GW648 := gw_ w hg; have GE648 := GW648; replace HB := b1_ hb; have NB638_648 := gN_ BK638 hg; have NB648_638 := gP_ BK638 hg; replace BK638 := bb_ BK638 hb; have NB639_648 := gN_ BK639 hg; have NB648_639 := gP_ BK639 hg; replace BK639 := bb_ BK639 hb; clear hb hbox hg; obtain ⟨Ao24, co24, eo24⟩ := Kd.R_slice HO644.out; subst eo24; have hnb25 := NB648_638.out; have hnc25 := NB638_648.out; have hnb26 := NB648_639.out; have hnc26 := NB639_648.out; obtain ⟨hcz27_0, hcz27_1, hfz27_0, hfz27_1⟩ := c2_ BK648; obtain ⟨Ao28, co28, eo28⟩ := Kd.R_slice HO647.out; subst eo28))
        go_loopg [7] kj2 (fun kq v7 w' => ∃ (x7_2 : Int) (x649000_2 : List Int) (x649001_2 : List Int) (u649000 : Value) (u649001 : Value), v7 = .int .i64 x7_2 ∧ Aside0 (impl_RunWord.l0 kq a1 x7_2 x649000_2 x649001_2 = some (r1, r2, r3)) ∧ Aside0 (kq ≤ kj2) ∧ Aside0 (Kd.R (Kd.int .i64) 3 w' w.heap.size (fun k_ => some k_ ≠ (u649001 : Value).ownBlock) u649000 x649000_2) ∧ Aside0 (Kd.R (Kd.int .i64) 3 w' w.heap.size (fun k_ => some k_ ≠ (u649000 : Value).ownBlock) u649001 x649001_2) ∧ Aside0 (w'.heap[gb638]? = some (.cells #[(.slice A0_0 l0_0.length c0_0), (.slice A0_1 l0_1.length c0_1)] 33 (0, 0))) ∧ Aside0 (w'.heap[gb639]? = some (.cells #[(.slice none 0 0), (.slice none 0 0)] 33 (0, 0))) ∧ Aside0 (w'.heap[gb648]? = some (.cells #[u649000, u649001] 33 (0, 0))) ∧ Aside0 (Below w.heap.size w w'))
        case atStart => exact ⟨(0), (t642), (t645), (.slice Ao24 t642.length co24), (.slice Ao28 t645.length co28), qc_, H', ⟨Nat.le_refl _⟩, ⟨(rw_ (fa_ HO644 BK648))⟩, ⟨(rw_ (fa_ HO647 BK648))⟩, ⟨by (with_reducible repeat (first | refine blk_drewN ?_ _ | refine blk_drew ?_ | refine blk_alloc ?_ _)); refine blk_far ?_ NB638_648.out _; (with_reducible repeat (first | refine blk_drewN ?_ _ | refine blk_drew ?_ | refine blk_alloc ?_ _)); refine blk_far ?_ NB638_648.out _; (with_reducible repeat (first | refine blk_drewN ?_ _ | refine blk_drew ?_ | refine blk_alloc ?_ _)); exact BK638.out⟩, ⟨by (with_reducible repeat (first | refine blk_drewN ?_ _ | refine blk_drew ?_ | refine blk_alloc ?_ _)); refine blk_far ?_ NB639_648.out _; (with_reducible repeat (first | refine blk_drewN ?_ _ | refine blk_drew ?_ | refine blk_alloc ?_ _)); refine blk_far ?_ NB639_648.out _; (with_reducible repeat (first | refine blk_drewN ?_ _ | refine blk_drew ?_ | refine blk_alloc ?_ _)); exact BK639.out⟩, ⟨qp_⟩, ⟨hB_⟩⟩
        case round =>
          clear H'
          obtain ⟨x7_2, x649000_2, x649001_2, u649000, u649001, rfl, HA, HK2, HO_649000, HO_649001, BK638, BK639, BK648, HB⟩ := hrel
          cases gk with
          | zero => exact absurd HA.out (by simp [impl_RunWord.l0])
          | succ k2 =>
            have H := HA.out
            clear HA
            simp only [impl_RunWord.l0] at H
            by_cases c29 : x7_2 < (a1.size : Int)
            · rw [if_pos c29] at H
              have c29b0 := decide_eq_true c29
              clear c29
              have c30 := cp_ H
              replace H := ca_ H
              have c30b0 := decide_eq_true c30
              clear c30
              obtain ⟨⟨t649, t652⟩, A32, H⟩ := bi_ H
              try dsimp only at H
              have H' := Aside0.mk H
              clear H
              try go_wp2
              replace HO_649000 := Aside0.mk (Kd.R_drew HO_649000.out)
              replace HO_649001 := Aside0.mk (Kd.R_drew HO_649001.out)
              replace BK638 := Aside0.mk (blk_drew BK638.out)
              replace BK639 := Aside0.mk (blk_drew BK639.out)
              replace BK648 := Aside0.mk (blk_drew BK648.out)
              replace HB := Aside0.mk (below_drew1 HB.out)
              have p31 : 0 ≤ (x7_2 : Int) := of_decide_eq_true qe_
              have q31 : x7_2 < (a1.size : Int) := of_decide_eq_true qe_
              have hx31 := bt_at a1 x7_2
              replace p31 := eq_true p31
              replace q31 := eq_true q31
              obtain ⟨Ao34, co34, eo34⟩ := Kd.R_slice HO_649000.out
              (first | subst eo34 | (injection eo34 with f1_ f2_ f3_; have f4_ := f1_.symm; have f5_ := f3_.symm; clear f1_ f2_ f3_; subst f4_; subst f5_))
              obtain ⟨Ao35, co35, eo35⟩ := Kd.R_slice HO_649001.out
              (first | subst eo35 | (injection eo35 with f1_ f2_ f3_; have f4_ := f1_.symm; have f5_ := f3_.symm; clear f1_ f2_ f3_; subst f4_; subst f5_))
              refine start_ (n := 6) (S := fun w' => w'.cell? ⟨gb648, 0, none⟩ = some (.slice Ao34 x649000_2.length co34) ∧ w'.cell? ⟨gb648, 1, none⟩ = some (.slice Ao35 x649001_2.length co35)) (ds := [5]) (bl_ 6 0) (by kernel_rfl) rfl (by kernel_rfl) ⟨cz0_ BK648, cz1_ BK648⟩ (fun hHeld => ?_)
              generalize wr.drew = w33 at HO_649000 HO_649001 BK638 BK639 BK648 HB hHeld ⊢
              refine pure_ (i := 1) (N := some 26) (v := ?_) (a' := ?_) (bl_ 6 2) rfl rfl (by kernel_rfl) (fun _ _ _ h => h) (Or.inl ⟨by rfl, ?_⟩) ?_ ?_
              rotate_left
              · intro w'
                go_simp
                with_reducible rfl
              rotate_left
              · simp only [Act.put, List.setIfInBounds_toArray, List.set_cons_zero, List.set_cons_succ, i64_w, i32_w]
                rfl
              refine pure_ (i := 2) (N := some 27) (v := ?_) (a' := ?_) (bl_ 6 6) rfl rfl (by kernel_rfl) (fun _ _ _ h => h) (Or.inl ⟨by rfl, ?_⟩) ?_ ?_
              rotate_left
              · intro w'
                go_simp
                with_reducible rfl
              rotate_left
              · simp only [Act.put, List.setIfInBounds_toArray, List.set_cons_zero, List.set_cons_succ, i64_w, i32_w]
                rfl
              refine take_ (i := 0) (N := some 25) (v := ?_) (a' := ?_) (bl_ 6 7) rfl rfl (by kernel_rfl) (fun _ _ _ h => h) (Or.inl ⟨by rfl, ?_⟩) hHeld ?_ ?_
              rotate_left
              · rintro w' ⟨s0, s1⟩
                go_simp
                with_reducible rfl
              rotate_left
              · simp only [Act.put, List.setIfInBounds_toArray, List.set_cons_zero, List.set_cons_succ, i64_w, i32_w]
                rfl
              refine take_ (i := 3) (N := some 28) (v := ?_) (a' := ?_) (bl_ 6 15) rfl rfl (by kernel_rfl) (fun _ _ _ h => h) (Or.inl ⟨by rfl, ?_⟩) hHeld ?_ ?_
              rotate_left
              · rintro w' ⟨s0, s1⟩
                go_simp
                with_reducible rfl
              rotate_left
              · simp only [Act.put, List.setIfInBounds_toArray, List.set_cons_zero, List.set_cons_succ, i64_w, i32_w]
                rfl
              refine one_ (i := 4) (N := some 29) (bl_ 6 31) rfl rfl (by kernel_rfl) (by decide) (fun K hK => ?_)
              refine gO_ Try.func70 #[.agg #[.slice Ao34 x649000_2.length co34, .slice Ao35 x649001_2.length co35], .int .u8 (bt a1 x7_2)] (by rfl) rfl rfl qa_ ?_
              with_reducible refine (impl_letterSurface.calls k2 _ _ x649000_2 _ _ x649001_2 (bt a1 x7_2) t649 t652 _ (cr_ HO_649000) ((Kd.R_reads' HO_649000.out).2.1) (cr_ HO_649001) ((Kd.R_reads' HO_649001.out).2.1) A32.out).mono ?_
              rintro e w36 ⟨v650, v653, rfl, ho0, ho1, hb⟩
              refine ⟨_, rfl, ?_⟩
              have HO651 := Aside0.mk (Kd.R_lower (Kd.R_new' (Kd.R_new' ho0 (Kd.R_lt (rr_ HO_649000))) (Kd.R_lt (rr_ HO_649001))) (below_size hB_))
              have HO654 := Aside0.mk (Kd.R_lower (Kd.R_new' (Kd.R_new' ho1 (Kd.R_lt (rr_ HO_649000))) (Kd.R_lt (rr_ HO_649001))) (below_size hB_))
              replace HO_649000 := Aside0.mk (Kd.R_mono (Kd.R_told (Kd.R_told (Kd.R_old (rr_ HO_649000) hb) (Kd.R_base ho0)) (Kd.R_base ho1)) (fun _ h_ => h_.1))
              replace HO_649001 := Aside0.mk (Kd.R_mono (Kd.R_told (Kd.R_told (Kd.R_old (rr_ HO_649001) hb) (Kd.R_base ho0)) (Kd.R_base ho1)) (fun _ h_ => h_.1))
              replace BK638 := bb_ BK638 hb
              replace BK639 := bb_ BK639 hb
              replace BK648 := bb_ BK648 hb
              replace HB := b1_ hb
              clear hb ho0 ho1
              obtain ⟨Ao37, co37, eo37⟩ := Kd.R_slice HO651.out
              (first | subst eo37 | (injection eo37 with f1_ f2_ f3_; have f4_ := f1_.symm; have f5_ := f3_.symm; clear f1_ f2_ f3_; subst f4_; subst f5_))
              obtain ⟨Ao39, co39, eo39⟩ := Kd.R_slice HO654.out
              (first | subst eo39 | (injection eo39 with f1_ f2_ f3_; have f4_ := f1_.symm; have f5_ := f3_.symm; clear f1_ f2_ f3_; subst f4_; subst f5_))
              refine hK.out _ _ ⟨cz0_ BK648, cz1_ BK648⟩ (fun hHeld => ?_)
              clear hK K
              refine no_ (some 29) ?_
              refine last_ (i := 5) (N := none) (bl_ 6 63) rfl rfl (by kernel_rfl) (by decide) (fun K hK => ?_)
              have hs38 : w36.cell? ⟨gb648, 0, none⟩ = some (.slice Ao34 x649000_2.length co34) := cz0_ BK648
              have hfs38 := blk_frozen BK648.out 0
              have hns38_0 := NB638_648.out
              have hns38_1 := NB639_648.out
              have hms38_0 := NB648_638.out
              have hms38_1 := NB648_639.out
              have hs40 : w36.cell? ⟨gb648, 1, none⟩ = some (.slice Ao35 x649001_2.length co35) := cz1_ BK648
              have hfs40 := blk_frozen BK648.out 1
              have hns40_0 := NB638_648.out
              have hns40_1 := NB639_648.out
              have hms40_0 := NB648_638.out
              have hms40_1 := NB648_639.out
              refine skip_ (w1 := ?_) (by rfl) rfl ?_ ?_
              rotate_left
              · go_simp
                rfl
              refine hK.out _ _ ?_
              clear hK K
              refine done_ (by kernel_rfl) ?_
              try go_wp2
              go_roundg k2
              case measure => have := HJ2.out; have := HK2.out; omega
              case rel => exact ⟨(wrap64 (x7_2 + 1)), (t649), (t652), (.slice Ao37 t649.length co37), (.slice Ao39 t652.length co39), qc_, H', ⟨by have := HJ2.out; have := HK2.out; omega⟩, ⟨(rw_ (Kd.R_mono (fa_ HO651 BK648) (fun _ hk => hk.1.1)))⟩, ⟨(rw_ (Kd.R_mono (fa_ HO654 BK648) (fun _ hk => hk.1.1)))⟩, ⟨by (with_reducible repeat (first | refine blk_drewN ?_ _ | refine blk_drew ?_ | refine blk_alloc ?_ _)); refine blk_far ?_ NB638_648.out _; (with_reducible repeat (first | refine blk_drewN ?_ _ | refine blk_drew ?_ | refine blk_alloc ?_ _)); refine blk_far ?_ NB638_648.out _; (with_reducible repeat (first | refine blk_drewN ?_ _ | refine blk_drew ?_ | refine blk_alloc ?_ _)); exact BK638.out⟩, ⟨by (with_reducible repeat (first | refine blk_drewN ?_ _ | refine blk_drew ?_ | refine blk_alloc ?_ _)); refine blk_far ?_ NB639_648.out _; (with_reducible repeat (first | refine blk_drewN ?_ _ | refine blk_drew ?_ | refine blk_alloc ?_ _)); refine blk_far ?_ NB639_648.out _; (with_reducible repeat (first | refine blk_drewN ?_ _ | refine blk_drew ?_ | refine blk_alloc ?_ _)); exact BK639.out⟩, ⟨qp_⟩, ⟨hB_⟩⟩
            · rw [if_neg c29] at H
              have c29b0 := decide_eq_false c29
              clear c29
              simp only [Option.some.injEq, Prod.mk.injEq] at H
              obtain ⟨rfl, rfl, rfl⟩ := H
              have hnb41 := NB648_638.out
              have hnc41 := NB638_648.out
              have hnb42 := NB648_639.out
              have hnc42 := NB639_648.out
              obtain ⟨hcz43_0, hcz43_1, hfz43_0, hfz43_1⟩ := c2_ BK648
              obtain ⟨Ao44, co44, eo44⟩ := Kd.R_slice HO_649000.out
              subst eo44
              have hnb45 := NB639_638.out
              have hnc45 := NB638_639.out
              obtain ⟨hcz46_0, hcz46_1, hfz46_0, hfz46_1⟩ := c2_ BK639
              obtain ⟨Ao47, co47, eo47⟩ := Kd.R_slice HO_649001.out
              subst eo47
              go_wp2
              refine bodyPost_ret (results_ct rfl _ _ gb639 33 #[.slice Ao44 x649000_2.length co44, .slice Ao47 x649001_2.length co47] (0, 0) _ rfl qp_ Try.underlying33 rfl (by kernel_rfl)) rfl ?_
              exact ⟨_, _, qb_, (rw_ (fa_ HO_649000 BK639)), (rw_ (fa_ HO_649001 BK639)), hB_⟩
end Go.Proofs.Ytoijcallajegfaa.A
end
section
namespace Go.Proofs.Ytoijcallajegfaa.A
open Go.RowKit Go.Proofs.YtoijcallajegfaaW.PrintWords Go.Proofs.YtoijcallajegfaaW.PrintLast Go.Proofs.YtoijcallajegfaaW.PrintMore
attribute [local go_sem] max2_int min2_int max_two min_two max_three min_three max_four min_four
set_option linter.unusedVariables false
set_option linter.unusedSimpArgs false
def impl_CountSquares.f (k : Nat) (l0_0 : List Int) (l0_1 : List Int) : Option (Int) := (impl_SurfaceOk.f k l0_0 l0_1).bind fun t140 => (if t140 = true then (some (l0_0.length : Int)) else (some 0))
theorem impl_CountSquares.mono : ∀ a0 a1 k, LeO (impl_CountSquares.f k a0 a1) (impl_CountSquares.f (k + 1) a0 a1) := by
  intro a0 a1 k
  unfold impl_CountSquares.f
  repeat' first|exact impl_SurfaceOk.mono _ _ _|exact lo_|refine LeO.ite ?_ ?_|refine LeO.bind ?_ (fun _ => ?_)
set_option maxHeartbeats 8000000 in
set_option maxRecDepth 100000 in
theorem impl_CountSquares.calls (k : Nat) (A0_0 : Option Addr) (c0_0 : Nat) (l0_0 : List Int) (A0_1 : Option Addr) (c0_1 : Nat) (l0_1 : List Int) (r : Int) (w : World) (hr0_0 : Kd.C (Kd.int .i64) w A0_0 l0_0.length l0_0) (hc0_0 : l0_0.length ≤ c0_0) (hr0_1 : Kd.C (Kd.int .i64) w A0_1 l0_1.length l0_1) (hc0_1 : l0_1.length ≤ c0_1) (h : impl_CountSquares.f k l0_0 l0_1 = some r) :
    Calls Try.prog 23 #[.agg #[.slice A0_0 l0_0.length c0_0, .slice A0_1 l0_1.length c0_1]] w fun e w' => e = .returned (.int .i64 r) ∧ Below w.heap.size w w' := by
  have hu33 := Try.underlying33
  have HR0_0 := Aside0.mk hr0_0
  have HC0_0 := Aside0.mk hc0_0
  clear hr0_0 hc0_0
  have HR0_1 := Aside0.mk hr0_1
  have HC0_1 := Aside0.mk hc0_1
  clear hr0_1 hc0_1
  have HB := Aside0.mk (Below.refl w.heap.size w)
  have H := h
  unfold impl_CountSquares.f at H
  clear h
  obtain ⟨t140, A2, H⟩ := bi_ H
  by_cases c3 : t140 = true
  · subst c3
    rw [if_pos rfl] at H
    obtain rfl := Option.some.inj H
    go_enter Try.func23, Try.ntmps23
    go_wp2_with (first | ((with_reducible refine gate_dst (N := 1) rfl ?_); refine bx_ 1 #[.slice A0_0 l0_0.length c0_0, .slice A0_1 l0_1.length c0_1] 33 ?_; intro gb139 hg w4 hbox hb; have BK139 := Aside0.mk hbox; have GW139 := gw_ w hg; have GE139 := GW139; replace HB := b1_ hb; clear hb hbox hg; obtain ⟨hcz5_0, hcz5_1, hfz5_0, hfz5_1⟩ := c2_ BK139) | ((with_reducible refine gate_callee (f := 19) rfl ?_); refine gL_ (some 4) Try.func19 #[.agg #[.slice A0_0 l0_0.length c0_0, .slice A0_1 l0_1.length c0_1]] rfl qa_ ?_; (with_reducible refine (impl_SurfaceOk.calls k _ _ l0_0 _ _ l0_1 true _ (cb_ HR0_0) HC0_0.out (cb_ HR0_1) HC0_1.out A2.out).mono ?_); rintro e w6 ⟨rfl, hb⟩; refine ⟨_, rfl, ?_⟩; replace BK139 := bb_ BK139 hb; replace HB := b1_ hb; clear hb; obtain ⟨hcz7_0, hcz7_1, hfz7_0, hfz7_1⟩ := c2_ BK139))
    go_ret
    exact ⟨qb_, hB_⟩
  · replace c3 := Bool.eq_false_iff.mpr c3
    subst c3
    have H1 : (some 0) = some r := by rw [if_neg (show ¬ (false = true) by decide)] at H; exact H
    clear H
    have H := H1
    clear H1
    obtain rfl := Option.some.inj H
    go_enter Try.func23, Try.ntmps23
    go_wp2_with (first | ((with_reducible refine gate_dst (N := 1) rfl ?_); refine bx_ 1 #[.slice A0_0 l0_0.length c0_0, .slice A0_1 l0_1.length c0_1] 33 ?_; intro gb139 hg w8 hbox hb; have BK139 := Aside0.mk hbox; have GW139 := gw_ w hg; have GE139 := GW139; replace HB := b1_ hb; clear hb hbox hg; obtain ⟨hcz9_0, hcz9_1, hfz9_0, hfz9_1⟩ := c2_ BK139) | ((with_reducible refine gate_callee (f := 19) rfl ?_); refine gL_ (some 4) Try.func19 #[.agg #[.slice A0_0 l0_0.length c0_0, .slice A0_1 l0_1.length c0_1]] rfl qa_ ?_; (with_reducible refine (impl_SurfaceOk.calls k _ _ l0_0 _ _ l0_1 false _ (cb_ HR0_0) HC0_0.out (cb_ HR0_1) HC0_1.out A2.out).mono ?_); rintro e w10 ⟨rfl, hb⟩; refine ⟨_, rfl, ?_⟩; replace BK139 := bb_ BK139 hb; replace HB := b1_ hb; clear hb))
    go_ret
    exact ⟨qb_, hB_⟩
end Go.Proofs.Ytoijcallajegfaa.A
end
section
namespace Go.Proofs.Ytoijcallajegfaa.A
open Go.RowKit Go.Proofs.YtoijcallajegfaaW.PrintWords Go.Proofs.YtoijcallajegfaaW.PrintLast Go.Proofs.YtoijcallajegfaaW.PrintMore
attribute [local go_sem] max2_int min2_int max_two min_two max_three min_three max_four min_four
set_option linter.unusedVariables false
set_option linter.unusedSimpArgs false
mutual
def impl_RenamePerm.j0 : Nat → List Int → List Int → Bool → Option (List Int)
  | 0, _, _, _ => none
  | k + 1, x0, x1, x22 => if x22 = true then (some ([] : List Int)) else (if 0 ≤ (x0.length : Int) then (if ((x0.length : Int) : Int).toNat ≤ 35184372088832 then (impl_RenamePerm.l0 k x1 (List.replicate ((x0.length : Int) : Int).toNat 0) x0 (x0.length : Int) 0) else (none)) else (none))
def impl_RenamePerm.l0 : Nat → List Int → List Int → List Int → Int → Int → Option (List Int)
  | 0, _, _, _, _, _ => none
  | k + 1, x1, x5, x26, x27, x28 => if x28 < x27 then (if 0 ≤ x28 then (if x28 < (x26.length : Int) then (if x28 < (x1.length : Int) then (if 0 ≤ (rd x26 x28) then (if (rd x26 x28) < (x1.length : Int) then (if 0 ≤ (rd x1 x28) then (if (rd x1 x28) < (x5.length : Int) then (impl_RenamePerm.l0 k x1 (x5.set ((rd x1 x28) : Int).toNat (rd x1 (rd x26 x28))) x26 x27 (wrap64 (x28 + 1))) else (none)) else (none)) else (none)) else (none)) else (none)) else (none)) else (none)) else (some x5)
end
def impl_RenamePerm.f (k : Nat) (l0 : List Int) (l1 : List Int) : Option (List Int) := (impl_PermOk.f k l0).bind fun t141 => (if t141 = true then ((impl_PermOk.f k l1).bind fun t142 => (if t142 = true then (impl_RenamePerm.j0 k l0 l1 ((l0.length : Int) != (l1.length : Int))) else (impl_RenamePerm.j0 k l0 l1 true))) else (impl_RenamePerm.j0 k l0 l1 true))
theorem impl_RenamePerm.mono_l : ∀ k, (∀ y0 y1 y2, LeO (impl_RenamePerm.j0 k y0 y1 y2) (impl_RenamePerm.j0 (k + 1) y0 y1 y2)) ∧ (∀ y0 y1 y2 y3 y4, LeO (impl_RenamePerm.l0 k y0 y1 y2 y3 y4) (impl_RenamePerm.l0 (k + 1) y0 y1 y2 y3 y4))
  | 0 => ⟨fun _ _ _ r h => by simp [impl_RenamePerm.j0] at h, fun _ _ _ _ _ r h => by simp [impl_RenamePerm.l0] at h⟩
  | k + 1 => by
    obtain ⟨ih0, ih1⟩ := impl_RenamePerm.mono_l k
    refine ⟨?_, ?_⟩
    · intro y0 y1 y2
      unfold impl_RenamePerm.j0
      repeat' first|exact ih0 _ _ _|exact ih1 _ _ _ _ _|exact impl_PermOk.mono _ _|exact lo_|refine LeO.ite ?_ ?_|refine LeO.bind ?_ (fun _ => ?_)
    · intro y0 y1 y2 y3 y4
      unfold impl_RenamePerm.l0
      repeat' first|exact ih0 _ _ _|exact ih1 _ _ _ _ _|exact impl_PermOk.mono _ _|exact lo_|refine LeO.ite ?_ ?_|refine LeO.bind ?_ (fun _ => ?_)
theorem impl_RenamePerm.mono : ∀ a0 a1 k, LeO (impl_RenamePerm.f k a0 a1) (impl_RenamePerm.f (k + 1) a0 a1) := by
  intro a0 a1 k
  obtain ⟨ih0, ih1⟩ := impl_RenamePerm.mono_l k
  unfold impl_RenamePerm.f
  repeat' first|exact ih0 _ _ _|exact ih1 _ _ _ _ _|exact impl_PermOk.mono _ _|exact lo_|refine LeO.ite ?_ ?_|refine LeO.bind ?_ (fun _ => ?_)
def impl_RenamePerm.T7 : Bool × List (List Nat × List Nat) := (true, [([], []), ([], []), ([], []), ([1, 2], [1, 2]), ([3], [3]), ([], []), ([], []), ([5, 6], [5, 6]), ([7], [7]), ([0, 4, 0, 1, 2, 3, 4, 5, 6, 7, 8], [0, 4]), ([9, 8, 0, 1, 2, 3, 4, 5, 6, 7, 8], [8, 9])])
def impl_RenamePerm.B7 : List Nat := [0, 0, 0, 6, 14, 0, 0, 96, 224, 511, 1023]
theorem impl_RenamePerm.tab7 : rtab .any (opsOf Try.f150 7) = impl_RenamePerm.T7 := by kernel_rfl
theorem impl_RenamePerm.bits7 : waitsOk impl_RenamePerm.T7.2 impl_RenamePerm.B7 = true := by kernel_rfl
set_option maxHeartbeats 8000000 in
set_option maxRecDepth 100000 in
theorem impl_RenamePerm.calls (k : Nat) (A0 : Option Addr) (c0 : Nat) (l0 : List Int) (A1 : Option Addr) (c1 : Nat) (l1 : List Int) (r : List Int) (w : World) (hr0 : Kd.C (Kd.int .i64) w A0 l0.length l0) (hc0 : l0.length ≤ c0) (hr1 : Kd.C (Kd.int .i64) w A1 l1.length l1) (hc1 : l1.length ≤ c1) (h : impl_RenamePerm.f k l0 l1 = some r) :
    Calls Try.prog 150 #[.slice A0 l0.length c0, .slice A1 l1.length c1] w fun e w' => ∃ v0_ : Value, e = .returned (v0_) ∧ Kd.R (Kd.int .i64) 3 w' w.heap.size (fun _ => True) v0_ r ∧ Below w.heap.size w w' := by
  have HR0 := Aside0.mk hr0
  have HC0 := Aside0.mk hc0
  clear hr0 hc0
  have HR1 := Aside0.mk hr1
  have HC1 := Aside0.mk hc1
  clear hr1 hc1
  have HB := Aside0.mk (Below.refl w.heap.size w)
  have H := h
  unfold impl_RenamePerm.f at H
  clear h
  have HC3 := Aside0.mk H
  clear H
  go_enter Try.func150, Try.ntmps150
  go_upto_region 1 with (fail)
  go_cut [22] (fun v22 wc => ∃ (kq : Nat) (x22_2 : Bool), v22 = .bool x22_2 ∧ Aside0 (impl_RenamePerm.j0 kq l0 l1 x22_2 = some r) ∧ Aside0 (kq ≤ k) ∧ Aside0 (Below w.heap.size w wc))
  case first =>
    have H := HC3.out
    clear HC3
    obtain ⟨t141, A4, H⟩ := bi_ H
    by_cases c5 : t141 = true
    · subst c5
      rw [if_pos rfl] at H
      obtain ⟨t142, A6, H⟩ := bi_ H
      by_cases c7 : t142 = true
      · subst c7
        rw [if_pos rfl] at H
        have H' := Aside0.mk H
        clear H
        go_wp2_with (first | ((with_reducible refine gate_callee (f := 109) rfl ?_); refine gL_ (some 9) Try.func109 #[.slice A0 l0.length c0] rfl qa_ ?_; (with_reducible refine (impl_PermOk.calls k _ _ l0 true _ (cb_ HR0) HC0.out A4.out).mono ?_); rintro e w8 ⟨rfl, hb⟩; refine ⟨_, rfl, ?_⟩; replace HB := b1_ hb; clear hb) | (go_at_call 109; (with_reducible refine (impl_PermOk.calls k _ _ l1 true _ (cb_ HR1) HC1.out A6.out).mono ?_); rintro e w9 ⟨rfl, hb⟩; replace HB := b1_ hb; clear hb))
        go_meet
        case rel => exact ⟨_, (((l0.length : Int) != (l1.length : Int))), qc_, H', ⟨qd_⟩, ⟨hB_⟩⟩
      · replace c7 := Bool.eq_false_iff.mpr c7
        subst c7
        have H1 : (impl_RenamePerm.j0 k l0 l1 true) = some r := by rw [if_neg (show ¬ (false = true) by decide)] at H; exact H
        clear H
        have H := H1
        clear H1
        have H' := Aside0.mk H
        clear H
        go_wp2_with (first | ((with_reducible refine gate_callee (f := 109) rfl ?_); refine gL_ (some 9) Try.func109 #[.slice A0 l0.length c0] rfl qa_ ?_; (with_reducible refine (impl_PermOk.calls k _ _ l0 true _ (cb_ HR0) HC0.out A4.out).mono ?_); rintro e w10 ⟨rfl, hb⟩; refine ⟨_, rfl, ?_⟩; replace HB := b1_ hb; clear hb) | (go_at_call 109; (with_reducible refine (impl_PermOk.calls k _ _ l1 false _ (cb_ HR1) HC1.out A6.out).mono ?_); rintro e w11 ⟨rfl, hb⟩; replace HB := b1_ hb; clear hb))
        go_meet
        case rel => exact ⟨_, (true), qc_, H', ⟨qd_⟩, ⟨hB_⟩⟩
    · replace c5 := Bool.eq_false_iff.mpr c5
      subst c5
      have H1 : (impl_RenamePerm.j0 k l0 l1 true) = some r := by rw [if_neg (show ¬ (false = true) by decide)] at H; exact H
      clear H
      have H := H1
      clear H1
      have H' := Aside0.mk H
      clear H
      go_wp2_with (first | ((with_reducible refine gate_callee (f := 109) rfl ?_); refine gL_ (some 9) Try.func109 #[.slice A0 l0.length c0] rfl qa_ ?_; (with_reducible refine (impl_PermOk.calls k _ _ l0 false _ (cb_ HR0) HC0.out A4.out).mono ?_); rintro e w12 ⟨rfl, hb⟩; refine ⟨_, rfl, ?_⟩; replace HB := b1_ hb; clear hb))
      go_meet
      case rel => exact ⟨_, (true), qc_, H', ⟨qd_⟩, ⟨hB_⟩⟩
  case rest =>
    clear HC3
    obtain ⟨kq, x22_2, rfl, HA, HJ2, HB⟩ := hcut
    cases kq with
    | zero => exact absurd HA.out (by simp [impl_RenamePerm.j0])
    | succ kj2 =>
      have H := HA.out
      clear HA
      simp only [impl_RenamePerm.j0] at H
      by_cases c13 : x22_2 = true
      · subst c13
        rw [if_pos rfl] at H
        obtain rfl := Option.some.inj H
        go_wp2
        go_ret
        exact ⟨_, qb_, by first | exact Kd.R_nil _ _ _ _ _ | exact Kd.N_nil _ _ _ _ _ | exact Kd.V_nil _ _ _ _ _ | exact Kd.Q_nil _ _ _ _ _ | exact Kd.S_nil _ _ _ _ _, hB_⟩
      · replace c13 := Bool.eq_false_iff.mpr c13
        subst c13
        have H1 : (if 0 ≤ (l0.length : Int) then (if ((l0.length : Int) : Int).toNat ≤ 35184372088832 then (impl_RenamePerm.l0 kj2 l1 (List.replicate ((l0.length : Int) : Int).toNat 0) l0 (l0.length : Int) 0) else (none)) else (none)) = some r := by rw [if_neg (show ¬ (false = true) by decide)] at H; exact H
        clear H
        have H := H1
        clear H1
        have c14 := cp_ H
        replace H := ca_ H
        have c14b0 := eq_true c14
        have c14b1 := decide_eq_true c14
        clear c14
        have c15 := cp_ H
        replace H := ca_ H
        have c15b0 := eq_true c15
        have c15b1 := decide_eq_true c15
        clear c15
        obtain ⟨y143, hy143⟩ : ∃ y_ : List Int, y_ = (List.replicate ((l0.length : Int) : Int).toNat 0) := ⟨_, rfl⟩
        replace H : (impl_RenamePerm.l0 kj2 l1 y143 l0 (l0.length : Int) 0) = some r := by first | (rw [hy143]; exact H) | exact H
        have Ny143 := Aside0.mk hy143
        clear hy143
        have H' := Aside0.mk H
        clear H
        go_wp2_with (first | ((with_reducible refine gate_dst (N := 25) rfl ?_); (try (refine gate_guard (by rfl) ?_; dsimp only)); refine Kd.R_make (Kd.int .i64) _ 3 rfl (N := 25) rfl 23 _ _ rfl (l0.length : Int) rfl rfl Try.underlying23 (.int .i64 0) 8 info3 rfl (by decide) (by omega) 0 (ok := fun _ => True) (okp := fun _ => True) rfl (fun _ hk => hk) trivial (of_decide_eq_true qe_) (Nat.le_trans (Nat.mul_le_mul_right _ (of_decide_eq_true qe_ : (l0.length : Int).toNat ≤ 35184372088832)) (by omega)) (Below.refl _ _) (Nat.le_refl _) ?_; intro v144 w16 ho17 hb hg_ hnew_; clear hg_ hnew_; (first | rw [← Ny143.out] at ho17 | (simp only [Int.reduceToNat] at ho17; rw [← Ny143.out] at ho17)); have HO145 := rl_ w ho17; replace HB := b1_ hb; clear hb ho17))
        go_loopg [28] kj2 (fun kq v28 w' => ∃ (x5_2 : List Int) (x28_2 : Int), v28 = .int .i64 x28_2 ∧ Aside0 (impl_RenamePerm.l0 kq l1 x5_2 l0 (l0.length : Int) x28_2 = some r) ∧ Aside0 (kq ≤ kj2) ∧ Aside0 (Kd.R (Kd.int .i64) 3 w' w.heap.size (fun _ => True) v144 x5_2) ∧ Aside0 (Below w.heap.size w w'))
        case atStart => exact ⟨(y143), (0), qc_, H', ⟨Nat.le_refl _⟩, ⟨(rr_ HO145)⟩, ⟨hB_⟩⟩
        case round =>
          clear H'
          obtain ⟨x5_2, x28_2, rfl, HA, HK2, HO_5, HB⟩ := hrel
          cases gk with
          | zero => exact absurd HA.out (by simp [impl_RenamePerm.l0])
          | succ k2 =>
            have H := HA.out
            clear HA
            simp only [impl_RenamePerm.l0] at H
            by_cases c18 : x28_2 < (l0.length : Int)
            · rw [if_pos c18] at H
              have c18b0 := decide_eq_true c18
              clear c18
              have c19 := cp_ H
              replace H := ca_ H
              have c19b0 := decide_eq_true c19
              clear c19
              have c20 := cp_ H
              replace H := ca_ H
              have c20b0 := decide_eq_true c20
              clear c20
              have c21 := cp_ H
              replace H := ca_ H
              have c21b0 := decide_eq_true c21
              clear c21
              have c22 := cp_ H
              replace H := ca_ H
              have c22b0 := decide_eq_true c22
              clear c22
              have c23 := cp_ H
              replace H := ca_ H
              have c23b0 := decide_eq_true c23
              clear c23
              have c24 := cp_ H
              replace H := ca_ H
              have c24b0 := decide_eq_true c24
              clear c24
              have c25 := cp_ H
              replace H := ca_ H
              have c25b0 := decide_eq_true c25
              clear c25
              obtain ⟨y149, hy149⟩ : ∃ y_ : List Int, y_ = (x5_2.set ((rd l1 x28_2) : Int).toNat (rd l1 (rd l0 x28_2))) := ⟨_, rfl⟩
              replace H : (impl_RenamePerm.l0 k2 l1 y149 l0 (l0.length : Int) (wrap64 (x28_2 + 1))) = some r := by first | (rw [hy149]; exact H) | exact H
              have Ny149 := Aside0.mk hy149
              clear hy149
              have H' := Aside0.mk H
              clear H
              have p146 : 0 ≤ (x28_2 : Int) := of_decide_eq_true qe_
              have q146 : x28_2 < (l0.length : Int) := of_decide_eq_true qe_
              obtain ⟨ad146, e146, hx146_0⟩ := Kd.at_int HR0.out x28_2 p146 q146
              cases e146
              replace hx146_0 := (HB.out.cell (World.block_lt_of_cell? w _ hx146_0)).trans hx146_0
              replace p146 := eq_true p146
              replace q146 := eq_true q146
              try go_wp2
              replace HO_5 := Aside0.mk (Kd.R_drew HO_5.out)
              replace HB := Aside0.mk (below_drew1 HB.out)
              have p147 : 0 ≤ (x28_2 : Int) := of_decide_eq_true qe_
              have q147 : x28_2 < (l1.length : Int) := of_decide_eq_true qe_
              obtain ⟨ad147, e147, hx147_0⟩ := Kd.at_int HR1.out x28_2 p147 q147
              have hw147_0 := hx147_0
              cases e147
              replace hx147_0 := (HB.out.cell (World.block_lt_of_cell? w _ hx147_0)).trans hx147_0
              replace p147 := eq_true p147
              replace q147 := eq_true q147
              have p148 : 0 ≤ ((rd l0 x28_2) : Int) := of_decide_eq_true qe_
              have q148 : (rd l0 x28_2) < (l1.length : Int) := of_decide_eq_true qe_
              obtain ⟨ad148, e148, hx148_0⟩ := Kd.at_int HR1.out (rd l0 x28_2) p148 q148
              have hw148_0 := hx148_0
              obtain rfl : ad147 = ad148 := (by injection e148)
              replace hx148_0 := (HB.out.cell (World.block_lt_of_cell? w _ hx148_0)).trans hx148_0
              replace p148 := eq_true p148
              replace q148 := eq_true q148
              have p26 : 0 ≤ ((rd l1 x28_2) : Int) := of_decide_eq_true qe_
              have q26 : ((rd l1 x28_2) : Int) < ((x5_2.length : Int) : Int) := of_decide_eq_true qe_
              obtain ⟨go26, co26, eo26, gb26, gl26, cl26, HG26⟩ := Kd.R_form HO_5.out (by omega)
              (first | cases eo26 | (injection eo26 with ea_ en_ ec_; (first | subst ea_ | (injection ea_ with ea_; subst ea_)); subst ec_; clear en_))
              have GB26 := Aside0.mk gb26
              have GG26 := Aside0.mk HG26
              clear gb26 gl26 HG26
              obtain ⟨hx26_0, hf26_0⟩ := Kd.R_celln 0 HO_5.out ((rd l1 x28_2) : Int) p26 q26
              replace p26 := eq_true p26
              replace q26 := eq_true q26
              have HP28 := Kd.R_putn HO_5.out ((rd l1 x28_2) : Int) (rd l1 (rd l0 x28_2))
              rw [← Ny149.out] at HP28
              have HQ28 := Aside0.mk HP28
              clear HP28
              refine start_ (n := 11) (S := fun w' => w'.cell? (ad147.add (x28_2).toNat) = some (.int .i64 (rd l1 x28_2)) ∧ w'.cell? (ad147.add ((rd l0 x28_2)).toNat) = some (.int .i64 (rd l1 (rd l0 x28_2)))) (ds := [10]) (bl_ 11 0) (by kernel_rfl) rfl (by kernel_rfl) ⟨((HB.out.cell (World.block_lt_of_cell? w _ hw147_0)).trans hw147_0), ((HB.out.cell (World.block_lt_of_cell? w _ hw148_0)).trans hw148_0)⟩ (fun hHeld => ?_); refine with_tabW impl_RenamePerm.tab7 impl_RenamePerm.bits7 (fun HT_ HW_ => ?_)
              generalize wr.drew = w27 at HO_5 HB GG26 HQ28 hf26_0 hx147_0 hx148_0 hx26_0 hHeld ⊢
              refine pu_ 0 (some 33) (bl_ 11 1) HT_ ?_
              refine pu_ 1 (some 34) (bl_ 11 3) HT_ ?_
              refine pu_ 2 (some 35) (bl_ 11 7) HT_ ?_
              refine pu_ 3 (some 36) (bl_ 11 15) HT_ ?_
              refine pu_ 5 (some 38) (bl_ 11 47) HT_ ?_
              refine pu_ 6 (some 39) (bl_ 11 111) HT_ ?_
              refine pu_ 7 (some 40) (bl_ 11 239) HT_ ?_
              refine ta_ 4 (some 37) (bl_ 11 255) HT_ HW_ hHeld ?_
              refine ta_ 8 (some 41) (bl_ 11 511) HT_ HW_ hHeld ?_
              refine pu_ 9 (some 42) (bl_ 11 1023) HT_ ?_
              refine last_ (i := 10) (N := none) (bl_ 11 2047) rfl rfl (one_of HT_.out (by kernel_rfl)) (by decide) (fun K hK => ?_)
              refine skip_ (w1 := ?_) (by rfl) rfl ?_ ?_
              rotate_left
              · go_simp
                rfl
              refine hK.out _ _ ?_
              clear hK K
              refine done_ (done_of HT_.out (by kernel_rfl)) ?_
              try go_wp2
              go_roundg k2
              case measure => have := HJ2.out; have := HK2.out; omega
              case rel => exact ⟨(y149), (wrap64 (x28_2 + 1)), qc_, H', ⟨by have := HJ2.out; have := HK2.out; omega⟩, ⟨(rr_ HQ28)⟩, ⟨by repeat (first | (with_reducible first | exact HB.out | apply below_alloc | apply pw_below_drewN | apply below_drew1 | refine below_set ?_ GB26.out) | exact HB.out)⟩⟩
            · rw [if_neg c18] at H
              have c18b0 := decide_eq_false c18
              clear c18
              obtain rfl := Option.some.inj H
              go_wp2
              go_ret
              exact ⟨_, qb_, (rr_ HO_5), hB_⟩
end Go.Proofs.Ytoijcallajegfaa.A
end
section
namespace Go.Proofs.Ytoijcallajegfaa.A
open Go.RowKit Go.Proofs.YtoijcallajegfaaW.PrintWords Go.Proofs.YtoijcallajegfaaW.PrintLast Go.Proofs.YtoijcallajegfaaW.PrintMore
attribute [local go_sem] max2_int min2_int max_two min_two max_three min_three max_four min_four
set_option linter.unusedVariables false
set_option linter.unusedSimpArgs false
def impl_RenameSurface.j0 : Nat → List Int → Bool → List Int → List Int → Option (List Int × List Int × Bool)
  | 0, _, _, _, _ => none
  | k + 1, x1, x21, x151000, x151001 => if x21 = true then (some (([] : List Int), ([] : List Int), false)) else ((impl_RenamePerm.f k x151000 x1).bind fun t154 => ((impl_RenamePerm.f k x151001 x1).bind fun t157 => (some (t154, t157, true))))
def impl_RenameSurface.f (k : Nat) (l0_0 : List Int) (l0_1 : List Int) (l1 : List Int) : Option (List Int × List Int × Bool) := (impl_SurfaceOk.f k l0_0 l0_1).bind fun t152 => (if t152 = true then ((impl_PermOk.f k l1).bind fun t153 => (if t153 = true then (impl_RenameSurface.j0 k l1 ((l1.length : Int) != (l0_0.length : Int)) l0_0 l0_1) else (impl_RenameSurface.j0 k l1 true l0_0 l0_1))) else (impl_RenameSurface.j0 k l1 true l0_0 l0_1))
theorem impl_RenameSurface.mono_l : ∀ k, (∀ y0 y1 y2 y3, LeO (impl_RenameSurface.j0 k y0 y1 y2 y3) (impl_RenameSurface.j0 (k + 1) y0 y1 y2 y3))
  | 0 => fun _ _ _ _ r h => by simp [impl_RenameSurface.j0] at h
  | k + 1 => by
    have ih0 := impl_RenameSurface.mono_l k
    · intro y0 y1 y2 y3
      unfold impl_RenameSurface.j0
      repeat' first|exact ih0 _ _ _ _|exact impl_PermOk.mono _ _|exact impl_RenamePerm.mono _ _ _|exact impl_SurfaceOk.mono _ _ _|exact lo_|refine LeO.ite ?_ ?_|refine LeO.bind ?_ (fun _ => ?_)
theorem impl_RenameSurface.mono : ∀ a0 a1 a2 k, LeO (impl_RenameSurface.f k a0 a1 a2) (impl_RenameSurface.f (k + 1) a0 a1 a2) := by
  intro a0 a1 a2 k
  have ih0 := impl_RenameSurface.mono_l k
  unfold impl_RenameSurface.f
  repeat' first|exact ih0 _ _ _ _|exact impl_PermOk.mono _ _|exact impl_RenamePerm.mono _ _ _|exact impl_SurfaceOk.mono _ _ _|exact lo_|refine LeO.ite ?_ ?_|refine LeO.bind ?_ (fun _ => ?_)
def impl_RenameSurface.T3 : Bool × List (List Nat × List Nat) := (true, [([], []), ([0], [0]), ([], []), ([1, 2], [1, 2]), ([], []), ([4], [4]), ([], []), ([5, 6, 3], [5, 6]), ([3, 7], [3, 7]), ([8, 7, 0, 1, 2, 3, 4, 5, 6, 7, 8], [8]), ([9, 0, 1, 2, 3, 4, 5, 6, 7, 8, 9], [])])
def impl_RenameSurface.B3 : List Nat := [0, 1, 0, 7, 0, 16, 0, 127, 255, 511, 1023]
theorem impl_RenameSurface.tab3 : rtab .any (opsOf Try.f107 3) = impl_RenameSurface.T3 := by kernel_rfl
theorem impl_RenameSurface.bits3 : waitsOk impl_RenameSurface.T3.2 impl_RenameSurface.B3 = true := by kernel_rfl
set_option maxHeartbeats 8000000 in
set_option maxRecDepth 100000 in
theorem impl_RenameSurface.calls (k : Nat) (A0_0 : Option Addr) (c0_0 : Nat) (l0_0 : List Int) (A0_1 : Option Addr) (c0_1 : Nat) (l0_1 : List Int) (A1 : Option Addr) (c1 : Nat) (l1 : List Int) (r1 : List Int) (r2 : List Int) (r3 : Bool) (w : World) (hr0_0 : Kd.C (Kd.int .i64) w A0_0 l0_0.length l0_0) (hc0_0 : l0_0.length ≤ c0_0) (hr0_1 : Kd.C (Kd.int .i64) w A0_1 l0_1.length l0_1) (hc0_1 : l0_1.length ≤ c0_1) (hr1 : Kd.C (Kd.int .i64) w A1 l1.length l1) (hc1 : l1.length ≤ c1) (h : impl_RenameSurface.f k l0_0 l0_1 l1 = some (r1, r2, r3)) :
    Calls Try.prog 107 #[.agg #[.slice A0_0 l0_0.length c0_0, .slice A0_1 l0_1.length c0_1], .slice A1 l1.length c1] w fun e w' => ∃ v0_ v1_ : Value, e = .returned (.tuple #[.agg #[v0_, v1_], .bool r3]) ∧ Kd.R (Kd.int .i64) 3 w' w.heap.size (fun k_ => some k_ ≠ (v1_ : Value).ownBlock) v0_ r1 ∧ Kd.R (Kd.int .i64) 3 w' w.heap.size (fun k_ => some k_ ≠ (v0_ : Value).ownBlock) v1_ r2 ∧ Below w.heap.size w w' := by
  have hu33 := Try.underlying33
  have HR0_0 := Aside0.mk hr0_0
  have HC0_0 := Aside0.mk hc0_0
  clear hr0_0 hc0_0
  have HR0_1 := Aside0.mk hr0_1
  have HC0_1 := Aside0.mk hc0_1
  clear hr0_1 hc0_1
  have HR1 := Aside0.mk hr1
  have HC1 := Aside0.mk hc1
  clear hr1 hc1
  have HB := Aside0.mk (Below.refl w.heap.size w)
  have H := h
  unfold impl_RenameSurface.f at H
  clear h
  have HC3 := Aside0.mk H
  clear H
  go_enter Try.func107, Try.ntmps107
  go_upto_region 1 with (first | ((with_reducible refine gate_dst (N := 2) rfl ?_); (try (refine gate_guard (by rfl) ?_; dsimp only)); refine bx_ 2 #[.slice A0_0 l0_0.length c0_0, .slice A0_1 l0_1.length c0_1] 33 ?_; intro gb150 hg w4 hbox hb; have BK150 := Aside0.mk hbox; have GW150 := gw_ w hg; have GE150 := GW150; replace HB := b1_ hb; clear hb hbox hg) | ((with_reducible refine gate_dst (N := 4) rfl ?_); (try (refine gate_guard (by rfl) ?_; dsimp only)); refine bx_ 4 #[.slice none 0 0, .slice none 0 0] 33 ?_; intro gb151 hg w5 hbox hb; have BK151 := Aside0.mk hbox; have GW151 := gw_ w hg; have GE151 := GW151; replace HB := b1_ hb; have NB150_151 := gN_ BK150 hg; have NB151_150 := gP_ BK150 hg; replace BK150 := bb_ BK150 hb; clear hb hbox hg))
  (try simp only [Act.put, List.setIfInBounds_toArray, List.set_cons_zero, List.set_cons_succ])
  go_cut [21] (fun v21 wc => ∃ (kq : Nat) (x21_2 : Bool), v21 = .bool x21_2 ∧ Aside0 (impl_RenameSurface.j0 kq l1 x21_2 l0_0 l0_1 = some (r1, r2, r3)) ∧ Aside0 (kq ≤ k) ∧ Aside0 (wc.heap[gb150]? = some (.cells #[(.slice A0_0 l0_0.length c0_0), (.slice A0_1 l0_1.length c0_1)] 33 (0, 0))) ∧ Aside0 (wc.heap[gb151]? = some (.cells #[(.slice none 0 0), (.slice none 0 0)] 33 (0, 0))) ∧ Aside0 (Below w.heap.size w wc))
  case first =>
    have H := HC3.out
    clear HC3
    obtain ⟨t152, A6, H⟩ := bi_ H
    by_cases c7 : t152 = true
    · subst c7
      rw [if_pos rfl] at H
      obtain ⟨t153, A8, H⟩ := bi_ H
      by_cases c9 : t153 = true
      · subst c9
        rw [if_pos rfl] at H
        have H' := Aside0.mk H
        clear H
        have hnb10 := NB150_151.out
        have hnc10 := NB151_150.out
        obtain ⟨hcz11_0, hcz11_1, hfz11_0, hfz11_1⟩ := c2_ BK150
        go_wp2_with (first | ((with_reducible refine gate_callee (f := 19) rfl ?_); refine gL_ (some 7) Try.func19 #[.agg #[.slice A0_0 l0_0.length c0_0, .slice A0_1 l0_1.length c0_1]] rfl qa_ ?_; (with_reducible refine (impl_SurfaceOk.calls k _ _ l0_0 _ _ l0_1 true _ (cb_ HR0_0) HC0_0.out (cb_ HR0_1) HC0_1.out A6.out).mono ?_); rintro e w12 ⟨rfl, hb⟩; refine ⟨_, rfl, ?_⟩; replace BK150 := bb_ BK150 hb; replace BK151 := bb_ BK151 hb; replace HB := b1_ hb; clear hb) | (go_at_call 109; (with_reducible refine (impl_PermOk.calls k _ _ l1 true _ (cb_ HR1) HC1.out A8.out).mono ?_); rintro e w13 ⟨rfl, hb⟩; replace BK150 := bb_ BK150 hb; replace BK151 := bb_ BK151 hb; replace HB := b1_ hb; clear hb; obtain ⟨hcz14_0, hcz14_1, hfz14_0, hfz14_1⟩ := c2_ BK150))
        go_meet
        case rel => exact ⟨_, (((l1.length : Int) != (l0_0.length : Int))), qc_, H', ⟨qd_⟩, ⟨(kk_ BK150)⟩, ⟨(kk_ BK151)⟩, ⟨hB_⟩⟩
      · replace c9 := Bool.eq_false_iff.mpr c9
        subst c9
        have H1 : (impl_RenameSurface.j0 k l1 true l0_0 l0_1) = some (r1, r2, r3) := by rw [if_neg (show ¬ (false = true) by decide)] at H; exact H
        clear H
        have H := H1
        clear H1
        have H' := Aside0.mk H
        clear H
        have hnb15 := NB150_151.out
        have hnc15 := NB151_150.out
        obtain ⟨hcz16_0, hcz16_1, hfz16_0, hfz16_1⟩ := c2_ BK150
        go_wp2_with (first | ((with_reducible refine gate_callee (f := 19) rfl ?_); refine gL_ (some 7) Try.func19 #[.agg #[.slice A0_0 l0_0.length c0_0, .slice A0_1 l0_1.length c0_1]] rfl qa_ ?_; (with_reducible refine (impl_SurfaceOk.calls k _ _ l0_0 _ _ l0_1 true _ (cb_ HR0_0) HC0_0.out (cb_ HR0_1) HC0_1.out A6.out).mono ?_); rintro e w17 ⟨rfl, hb⟩; refine ⟨_, rfl, ?_⟩; replace BK150 := bb_ BK150 hb; replace BK151 := bb_ BK151 hb; replace HB := b1_ hb; clear hb) | (go_at_call 109; (with_reducible refine (impl_PermOk.calls k _ _ l1 false _ (cb_ HR1) HC1.out A8.out).mono ?_); rintro e w18 ⟨rfl, hb⟩; replace BK150 := bb_ BK150 hb; replace BK151 := bb_ BK151 hb; replace HB := b1_ hb; clear hb))
        go_meet
        case rel => exact ⟨_, (true), qc_, H', ⟨qd_⟩, ⟨(kk_ BK150)⟩, ⟨(kk_ BK151)⟩, ⟨hB_⟩⟩
    · replace c7 := Bool.eq_false_iff.mpr c7
      subst c7
      have H1 : (impl_RenameSurface.j0 k l1 true l0_0 l0_1) = some (r1, r2, r3) := by rw [if_neg (show ¬ (false = true) by decide)] at H; exact H
      clear H
      have H := H1
      clear H1
      have H' := Aside0.mk H
      clear H
      have hnb19 := NB150_151.out
      have hnc19 := NB151_150.out
      obtain ⟨hcz20_0, hcz20_1, hfz20_0, hfz20_1⟩ := c2_ BK150
      go_wp2_with (first | ((with_reducible refine gate_callee (f := 19) rfl ?_); refine gL_ (some 7) Try.func19 #[.agg #[.slice A0_0 l0_0.length c0_0, .slice A0_1 l0_1.length c0_1]] rfl qa_ ?_; (with_reducible refine (impl_SurfaceOk.calls k _ _ l0_0 _ _ l0_1 false _ (cb_ HR0_0) HC0_0.out (cb_ HR0_1) HC0_1.out A6.out).mono ?_); rintro e w21 ⟨rfl, hb⟩; refine ⟨_, rfl, ?_⟩; replace BK150 := bb_ BK150 hb; replace BK151 := bb_ BK151 hb; replace HB := b1_ hb; clear hb))
      go_meet
      case rel => exact ⟨_, (true), qc_, H', ⟨qd_⟩, ⟨(kk_ BK150)⟩, ⟨(kk_ BK151)⟩, ⟨hB_⟩⟩
  case rest =>
    clear HC3
    obtain ⟨kq, x21_2, rfl, HA, HJ2, BK150, BK151, HB⟩ := hcut
    cases kq with
    | zero => exact absurd HA.out (by simp [impl_RenameSurface.j0])
    | succ kj2 =>
      have H := HA.out
      clear HA
      simp only [impl_RenameSurface.j0] at H
      by_cases c22 : x21_2 = true
      · subst c22
        rw [if_pos rfl] at H
        simp only [Option.some.injEq, Prod.mk.injEq] at H
        obtain ⟨rfl, rfl, rfl⟩ := H
        have hnb23 := NB151_150.out
        have hnc23 := NB150_151.out
        obtain ⟨hcz24_0, hcz24_1, hfz24_0, hfz24_1⟩ := c2_ BK151
        go_wp2
        refine bodyPost_ret (results_ct rfl _ _ gb151 33 #[.slice none 0 0, .slice none 0 0] (0, 0) _ rfl qp_ Try.underlying33 rfl (by kernel_rfl)) rfl ?_
        exact ⟨_, _, qb_, by first | exact Kd.R_nil _ _ _ _ _ | exact Kd.N_nil _ _ _ _ _ | exact Kd.V_nil _ _ _ _ _ | exact Kd.Q_nil _ _ _ _ _ | exact Kd.S_nil _ _ _ _ _, by first | exact Kd.R_nil _ _ _ _ _ | exact Kd.N_nil _ _ _ _ _ | exact Kd.V_nil _ _ _ _ _ | exact Kd.Q_nil _ _ _ _ _ | exact Kd.S_nil _ _ _ _ _, hB_⟩
      · replace c22 := Bool.eq_false_iff.mpr c22
        subst c22
        have H1 : ((impl_RenamePerm.f kj2 l0_0 l1).bind fun t154 => ((impl_RenamePerm.f kj2 l0_1 l1).bind fun t157 => (some (t154, t157, true)))) = some (r1, r2, r3) := by rw [if_neg (show ¬ (false = true) by decide)] at H; exact H
        clear H
        have H := H1
        clear H1
        obtain ⟨t154, A25, H⟩ := bi_ H
        obtain ⟨t157, A26, H⟩ := bi_ H
        simp only [Option.some.injEq, Prod.mk.injEq] at H
        obtain ⟨rfl, rfl, rfl⟩ := H
        try go_wp2
        replace BK150 := Aside0.mk (blk_drew BK150.out)
        replace BK151 := Aside0.mk (blk_drew BK151.out)
        replace HB := Aside0.mk (below_drew1 HB.out)
        refine start_ (n := 11) (S := fun w' => w'.cell? ⟨gb150, 0, none⟩ = some (.slice A0_0 l0_0.length c0_0) ∧ w'.cell? ⟨gb150, 1, none⟩ = some (.slice A0_1 l0_1.length c0_1)) (ds := []) (bl_ 11 0) (by kernel_rfl) rfl (by kernel_rfl) ⟨cz0_ BK150, cz1_ BK150⟩ (fun hHeld => ?_); refine with_tabW impl_RenameSurface.tab3 impl_RenameSurface.bits3 (fun HT_ HW_ => ?_)
        generalize wc.drew = w27 at BK150 BK151 HB hHeld ⊢
        refine pu_ 0 (some 23) (bl_ 11 1) HT_ ?_
        refine pu_ 2 (some 25) (bl_ 11 5) HT_ ?_
        refine pu_ 4 (some 27) (bl_ 11 21) HT_ ?_
        refine pu_ 6 (some 29) (bl_ 11 85) HT_ ?_
        refine ta_ 1 (some 24) (bl_ 11 87) HT_ HW_ hHeld ?_
        refine ta_ 5 (some 28) (bl_ 11 119) HT_ HW_ hHeld ?_
        refine on_ 3 (some 26) (bl_ 11 127) HT_ (fun K hK => ?_)
        refine gO_ Try.func150 #[.slice A0_0 l0_0.length c0_0, .slice A1 l1.length c1] (by rfl) rfl rfl qa_ ?_
        with_reducible refine (impl_RenamePerm.calls kj2 _ _ l0_0 _ _ l1 t154 _ (cb_ HR0_0) HC0_0.out (cb_ HR1) HC1.out A25.out).mono ?_
        rintro e w28 ⟨v155, rfl, ho0, hb⟩
        refine ⟨_, rfl, ?_⟩
        have HO156 := rl_ w ho0
        replace BK150 := bb_ BK150 hb
        replace BK151 := bb_ BK151 hb
        replace HB := b1_ hb
        clear hb ho0
        refine hK.out _ _ ⟨cz0_ BK150, cz1_ BK150⟩ (fun hHeld => ?_)
        clear hK K
        refine no_ (some 26) ?_
        refine on_ 7 (some 30) (bl_ 11 255) HT_ (fun K hK => ?_)
        refine gO_ Try.func150 #[.slice A0_1 l0_1.length c0_1, .slice A1 l1.length c1] (by rfl) rfl rfl qa_ ?_
        with_reducible refine (impl_RenamePerm.calls kj2 _ _ l0_1 _ _ l1 t157 _ (cb_ HR0_1) HC0_1.out (cb_ HR1) HC1.out A26.out).mono ?_
        rintro e w29 ⟨v158, rfl, ho0, hb⟩
        refine ⟨_, rfl, ?_⟩
        have HO159 := Aside0.mk (Kd.R_lower (Kd.R_new' ho0 (Kd.R_lt (rr_ HO156))) (below_size hB_))
        replace HO156 := Aside0.mk (Kd.R_elder' (rr_ HO156) (Kd.R_base ho0) hb)
        replace BK150 := bb_ BK150 hb
        replace BK151 := bb_ BK151 hb
        replace HB := b1_ hb
        clear hb ho0
        obtain ⟨Ao30, co30, eo30⟩ := Kd.R_slice HO159.out
        (first | subst eo30 | (injection eo30 with f1_ f2_ f3_; have f4_ := f1_.symm; have f5_ := f3_.symm; clear f1_ f2_ f3_; subst f4_; subst f5_))
        obtain ⟨Ao31, co31, eo31⟩ := Kd.R_slice HO156.out
        (first | subst eo31 | (injection eo31 with f1_ f2_ f3_; have f4_ := f1_.symm; have f5_ := f3_.symm; clear f1_ f2_ f3_; subst f4_; subst f5_))
        refine hK.out _ _ ⟨cz0_ BK150, cz1_ BK150⟩ (fun hHeld => ?_)
        clear hK K
        refine no_ (some 30) ?_
        refine pu_ 8 (some 31) (bl_ 11 511) HT_ ?_
        refine on_ 9 (none) (bl_ 11 1023) HT_ (fun K hK => ?_)
        have hs32 : w29.cell? ⟨gb151, 0, none⟩ = some (.slice none 0 0) := cz0_ BK151
        have hfs32 := blk_frozen BK151.out 0
        have hns32_0 := NB150_151.out
        have hms32_0 := NB151_150.out
        have hs33 : w29.cell? ⟨gb151, 1, none⟩ = some (.slice none 0 0) := cz1_ BK151
        have hfs33 := blk_frozen BK151.out 1
        have hns33_0 := NB150_151.out
        have hms33_0 := NB151_150.out
        refine skip_ (w1 := ?_) (by rfl) rfl ?_ ?_
        rotate_left
        · go_simp
          rfl
        refine hK.out _ _ ⟨((cell_far (p := ⟨gb151, _, none⟩) NB150_151.out _).trans (((cell_far (p := ⟨gb151, _, none⟩) NB150_151.out _).trans (hHeld.1)))), ((cell_far (p := ⟨gb151, _, none⟩) NB150_151.out _).trans (((cell_far (p := ⟨gb151, _, none⟩) NB150_151.out _).trans (hHeld.2))))⟩ (fun hHeld => ?_)
        clear hK K
        refine pu_ 10 (some 5) (bl_ 11 2047) HT_ ?_
        refine done_ (done_of HT_.out (by kernel_rfl)) ?_
        try go_wp2
        refine bodyPost_ret (results_ct rfl _ _ gb151 33 #[.slice Ao31 t154.length co31, .slice Ao30 t157.length co30] (0, 0) _ rfl qp_ Try.underlying33 rfl (by kernel_rfl)) rfl ?_
        exact ⟨_, _, qb_, (rw_ (Kd.R_mono (fa_ HO156 BK151) (fun _ hk => hk.2))), (rw_ (Kd.R_mono (fa_ HO159 BK151) (fun _ hk => hk.2))), hB_⟩
end Go.Proofs.Ytoijcallajegfaa.A
end
