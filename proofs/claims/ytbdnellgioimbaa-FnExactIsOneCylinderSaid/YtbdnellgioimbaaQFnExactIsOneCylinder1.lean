/- Lemmas for the row FnExactIsOneCylinder: the program's functions told as plain functions, and plain mathematics. No conditions. -/
import Derived.ArgAppend
import Derived.Below
import Derived.BigQuiet
import Derived.Deep.AppendLies
import Derived.Deep.CutBlock
import Derived.Deep.DeepCutAuto
import Derived.Deep.Draws
import Derived.Deep.LoopGhost
import Derived.Deep.OwnRows
import Derived.Deep.QuietTactic
import Derived.Deep.RegionHeld3
import Derived.KernelRfl
import Derived.Laws.BitsLemmas
import Derived.Laws.BytesArg
import Derived.Laws.IdiomCopy
import Derived.Laws.MakeOwn
import Derived.Laws.OwnMore
import Derived.Laws.Rows
import Derived.Laws.Slices
import Derived.Laws.Tables
import Derived.Lib.AppendStr
import Derived.Lib.ConvBytes
import Derived.Maps.AppendAt
import Derived.OrdersHeld
import Derived.OwnWalk
import Derived.RowKit
import Derived.RowKit3
import Derived.Tactics
import Derived.Test.YtbdnellgioimbaaProg
import Derived.WalkKit
import Derived.WideLaws
import Derived.Test.YtbdnellgioimbaaQFnExactIsOneCylinder0
section
namespace Go.Proofs.Ytbdnellgioimbaa.A
open Go.RowKit Go.Proofs.YtbdnellgioimbaaW.PrintWords Go.Proofs.YtbdnellgioimbaaW.PrintLast Go.Proofs.YtbdnellgioimbaaW.PrintMore
attribute [local go_sem] max2_int min2_int max_two min_two max_three min_three max_four min_four
set_option linter.unusedVariables false
set_option linter.unusedSimpArgs false
def errW : Option Int → Value
  | none => .nilIface
  | some c => .iface 0 (.int .i64 c)
theorem errW_none : errW none = .nilIface := rfl
theorem errW_some (c : Int) : errW (some c) = .iface 0 (.int .i64 c) := rfl
theorem info3 : (Try.prog.info? 3).map (fun i => (i.zero, i.size, i.bytes)) = some (some (.int .i64 0), 1, 8) := by kernel_rfl
theorem info4 : (Try.prog.info? 4).map (fun i => (i.zero, i.size, i.bytes)) = some (some (.bool false), 1, 1) := by kernel_rfl
theorem info22 : (Try.prog.info? 22).map (fun i => (i.zero, i.size, i.bytes)) = some (some (.slice none 0 0), 1, 24) := by kernel_rfl
theorem info44 : (Try.prog.info? 44).map (fun i => (i.zero, i.size, i.bytes)) = some (some (.agg #[(.int .i64 0), (.int .i64 0)]), 2, 16) := by kernel_rfl
def rd_L1 (xs : List (List Int)) (i : Int) : (List Int) := xs.getD i.toNat ([] : List Int)
theorem at_L1 {w : World} {A : Option Addr} {n : Nat} {xs : List (List Int)} (h : Kd.C (Kd.slice 3 (Kd.int .i64)) w A n xs) (i : Int) (h0 : 0 ≤ i) (h1 : i < n) : ∃ ad A0 c0, A = some ad ∧ w.cell? (ad.add i.toNat) = some (.slice A0 (rd_L1 xs i).length c0) ∧ (rd_L1 xs i).length ≤ c0 ∧ (Kd.int .i64).C w A0 (rd_L1 xs i).length (rd_L1 xs i) := by
  obtain ⟨ad, c, e, _, hK, hc0⟩ := Kd.C_get h ([] : List Int) i h0 h1
  have hc : ∀ j u, c[j]? = some u → w.cell? (ad.add (i.toNat * 1 + j)) = some u := hc0
  obtain ⟨A0, c0, rfl, l0, g0⟩ := hK
  exact ⟨ad, A0, c0, e, by have hq := hc 0 _ rfl; rwa [Nat.mul_one, Nat.add_zero] at hq, l0, g0⟩
structure S128 where
  f0 : Int
  f1 : Int
structure S44 where
  f0 : Int
  f1 : Int
def k44 : Kd S44 := Kd.iso (Kd.pair (Kd.int .i64) (Kd.int .i64)) (fun x : S44 => (x.f0, x.f1))
theorem k44_mkM (w : World) (base : Nat) (ok : Nat → Prop) (x : S44)  : k44.M w base ok x [.int .i64 x.f0, .int .i64 x.f1] := ⟨[.int .i64 x.f0], [.int .i64 x.f1], rfl, rfl, rfl⟩
structure S105 where
  f0 : (List Int)
  f1 : Int
  f2 : Int
end Go.Proofs.Ytbdnellgioimbaa.A
end
section
/- Short words for printed texts. No conditions. -/
namespace Go.Proofs.Ytbdnellgioimbaa.A
open Go.RowKit Go.Proofs.YtbdnellgioimbaaW.PrintWords Go.Proofs.YtbdnellgioimbaaW.PrintLast Go.Proofs.YtbdnellgioimbaaW.PrintMore
set_option linter.unusedVariables false
theorem qa_ {p : Prop} (h : p := by (try simp only [List.map_toArray, List.map_cons, List.map_nil]); first | done | rfl | (simp only [List.length_drop, List.length_take]; rfl)) : p := h
theorem qb_ {p : Prop} (h : p := by first | rfl | (simp [errW_none, errW_some] <;> rfl) | (simp [*, errW_none, errW_some] <;> rfl)) : p := h
theorem qc_ {p : Prop} (h : p := by first | rfl | (simp; done) | (simp [*]; done)) : p := h
theorem qd_ {p : Prop} (h : p := by first | omega | exact Nat.le_refl _) : p := h
theorem qe_ {p : Prop} (h : p := by first | (with_reducible assumption) | assumption) : p := h
theorem hB_ {p : Prop} (h : p := by repeat (first | (with_reducible first | exact HB.out | apply below_alloc | apply pw_below_drewN | apply below_drew1 | refine below_set ?_ (Aside0.out (by assumption))) | exact HB.out)) : p := h
theorem kk_ {w W : World} {g : Nat} {o : Obj} (a : Aside0 (w.heap[g]? = some o)) (hw : Below w.heap.size w W := by repeat (first | (with_reducible first | exact Below.refl _ _ | apply below_alloc | apply pw_below_drewN | apply below_drew1) | exact Below.refl _ _)) : W.heap[g]? = some o := blk_below a.out hw
theorem bb_ {w W w1 : World} {g : Nat} {o : Obj} (a : Aside0 (w.heap[g]? = some o)) (hb : Below W.heap.size W w1) (hw : Below w.heap.size w W := by repeat (first | (with_reducible first | exact Below.refl _ _ | apply below_alloc | apply pw_below_drewN | apply below_drew1) | exact Below.refl _ _)) : Aside0 (w1.heap[g]? = some o) := ⟨blk_below (blk_below a.out hw) hb⟩
section
variable {α : Type} {d : Kd α} {e n c : Nat} {b : Nat} {ok : Nat → Prop} {v : Value} {xs : List α} {A : Option Addr} {w W w1 : World}
theorem rr_ (a : Aside0 (d.R e w b ok v xs)) (hw : Below w.heap.size w W := by repeat (first | (with_reducible first | exact Below.refl _ _ | apply below_alloc | apply pw_below_drewN | apply below_drew1) | exact Below.refl _ _)) : d.R e W b ok v xs := Kd.R_below a.out hw
theorem rw_ (a : d.R e w b ok v xs) (hw : Below w.heap.size w W := by repeat (first | (with_reducible first | exact Below.refl _ _ | apply below_alloc | apply pw_below_drewN | apply below_drew1) | exact Below.refl _ _)) : d.R e W b ok v xs := Kd.R_below a hw
theorem rb_ (a : Aside0 (d.R e w b ok v xs)) (hb : Below W.heap.size W w1) (hw : Below w.heap.size w W := by repeat (first | (with_reducible first | exact Below.refl _ _ | apply below_alloc | apply pw_below_drewN | apply below_drew1) | exact Below.refl _ _)) : Aside0 (d.R e w1 b ok v xs) := ⟨Kd.R_below (Kd.R_below a.out hw) hb⟩
theorem ss_ (a : Aside0 (Kd.S d e w b ok v xs)) (hw : Below w.heap.size w W := by repeat (first | (with_reducible first | exact Below.refl _ _ | apply below_alloc | apply pw_below_drewN | apply below_drew1) | exact Below.refl _ _)) : Kd.S d e W b ok v xs := Kd.S_below a.out hw
theorem sw_ (a : Kd.S d e w b ok v xs) (hw : Below w.heap.size w W := by repeat (first | (with_reducible first | exact Below.refl _ _ | apply below_alloc | apply pw_below_drewN | apply below_drew1) | exact Below.refl _ _)) : Kd.S d e W b ok v xs := Kd.S_below a hw
theorem sb_ (a : Aside0 (Kd.S d e w b ok v xs)) (hb : Below W.heap.size W w1) (hw : Below w.heap.size w W := by repeat (first | (with_reducible first | exact Below.refl _ _ | apply below_alloc | apply pw_below_drewN | apply below_drew1) | exact Below.refl _ _)) : Aside0 (Kd.S d e w1 b ok v xs) := ⟨Kd.S_below (Kd.S_below a.out hw) hb⟩
theorem cb_ (a : Aside0 (d.C w A n xs)) (hw : Below w.heap.size w W := by repeat (first | (with_reducible first | exact HB.out | apply below_alloc | apply pw_below_drewN | apply below_drew1 | refine below_set ?_ (Aside0.out (by assumption))) | exact HB.out)) : d.C W A n xs := Kd.C_below a.out hw
theorem cc_ (a : Aside0 (d.C w A n xs)) (hw : Below w.heap.size w W := by repeat (first | (with_reducible first | exact Below.refl _ _ | apply below_alloc | apply pw_below_drewN | apply below_drew1) | exact Below.refl _ _)) : d.C W A n xs := Kd.C_below a.out hw
theorem cw_ (a : d.C w A n xs) (hw : Below w.heap.size w W := by repeat (first | (with_reducible first | exact Below.refl _ _ | apply below_alloc | apply pw_below_drewN | apply below_drew1) | exact Below.refl _ _)) : d.C W A n xs := Kd.C_below a hw
theorem cr_ (a : Aside0 (d.R e w b ok (.slice A n c) xs)) (hw : Below w.heap.size w W := by repeat (first | (with_reducible first | exact Below.refl _ _ | apply below_alloc | apply pw_below_drewN | apply below_drew1) | exact Below.refl _ _)) : d.C W A xs.length xs := Kd.C_below (Kd.R_reads' a.out).2.2 hw
end
theorem b1_ {w W w1 : World} (hb : Below W.heap.size W w1) (h : Below w.heap.size w W := by repeat (first | (with_reducible first | exact HB.out | apply below_alloc | apply pw_below_drewN | apply below_drew1 | refine below_set ?_ (Aside0.out (by assumption))) | exact HB.out)) : Aside0 (Below w.heap.size w w1) := ⟨below_step h hb⟩
theorem gx_ {n m k : Nat} (hg : k = m) (h : n ≤ m) : n ≤ k := hg ▸ h
theorem gn_ {n m k : Nat} (hg : k = m) (h : n < m) : n ≠ k := hg ▸ Nat.ne_of_lt h
theorem gp_ {n m k : Nat} (hg : k = m) (h : n < m) : k ≠ n := hg ▸ Nat.ne_of_gt h
theorem cz0_ {w : World} {g : Nat} {t : TypeId} {l : List Value} {v0 : Value} (h : Aside0 (w.heap[g]? = some (.cells (List.toArray (v0 :: l)) t (0, 0)))) : w.cell? ⟨g, 0, none⟩ = some v0 := (blk_cell h.out 0).trans rfl
theorem cz1_ {w : World} {g : Nat} {t : TypeId} {l : List Value} {v0 v1 : Value} (h : Aside0 (w.heap[g]? = some (.cells (List.toArray (v0 :: v1 :: l)) t (0, 0)))) : w.cell? ⟨g, 1, none⟩ = some v1 := (blk_cell h.out 1).trans rfl
theorem c2_ {w : World} {g : Nat} {t : TypeId} {v0 v1 : Value} (h : Aside0 (w.heap[g]? = some (.cells (List.toArray [v0, v1]) t (0, 0)))) : w.cell? ⟨g, 0, none⟩ = some v0 ∧ w.cell? ⟨g, 1, none⟩ = some v1 ∧ w.frozen? ⟨g, 0, none⟩ = false ∧ w.frozen? ⟨g, 1, none⟩ = false := ⟨cz0_ h, cz1_ h, blk_frozen h.out 0, blk_frozen h.out 1⟩
theorem gw_ (w : World) {W : World} {g : Nat} (hg : g = W.heap.size) (h : Below w.heap.size w W := by repeat (first | (with_reducible first | exact HB.out | apply below_alloc | apply pw_below_drewN | apply below_drew1 | refine below_set ?_ (Aside0.out (by assumption))) | exact HB.out)) : Aside0 (w.heap.size ≤ g) := ⟨gx_ hg (below_size h)⟩
theorem gN_ {w W : World} {g k : Nat} {o : Obj} (a : Aside0 (w.heap[g]? = some o)) (hg : k = W.heap.size) (hw : Below w.heap.size w W := by repeat (first | (with_reducible first | exact Below.refl _ _ | apply below_alloc | apply pw_below_drewN | apply below_drew1) | exact Below.refl _ _)) : Aside0 (g ≠ k) := ⟨gn_ hg (blk_lt (blk_below a.out hw))⟩
theorem gP_ {w W : World} {g k : Nat} {o : Obj} (a : Aside0 (w.heap[g]? = some o)) (hg : k = W.heap.size) (hw : Below w.heap.size w W := by repeat (first | (with_reducible first | exact Below.refl _ _ | apply below_alloc | apply pw_below_drewN | apply below_drew1) | exact Below.refl _ _)) : Aside0 (k ≠ g) := ⟨gp_ hg (blk_lt (blk_below a.out hw))⟩
theorem rl_ {α : Type} {d : Kd α} {e : Nat} {ok : Nat → Prop} {v : Value} {xs : List α} (w : World) {W w1 : World} (a : d.R e w1 W.heap.size ok v xs) (h : Below w.heap.size w W := by repeat (first | (with_reducible first | exact HB.out | apply below_alloc | apply pw_below_drewN | apply below_drew1 | refine below_set ?_ (Aside0.out (by assumption))) | exact HB.out)) : Aside0 (d.R e w1 w.heap.size ok v xs) := ⟨Kd.R_lower a (below_size h)⟩
theorem cp_ {α : Type} {c : Prop} [Decidable c] {a : Option α} {r : α} (H : (if c then a else none) = some r) : c := Classical.byContradiction fun h => by rw [if_neg h] at H; cases H
theorem ca_ {α : Type} {c : Prop} [Decidable c] {a : Option α} {r : α} (H : (if c then a else none) = some r) : a = some r := by rw [if_pos (cp_ H)] at H; exact H
theorem bi_ {α β : Type} {x : Option α} {f : α → Option β} {r : β} (H : x.bind f = some r) : ∃ a, Aside0 (x = some a) ∧ f a = some r := by obtain ⟨a, h, k⟩ := Option.bind_eq_some_iff.mp H; exact ⟨a, ⟨h⟩, k⟩
theorem qp_ {p : Prop} (h : p := by (with_reducible repeat (first | refine blk_drewN ?_ _ | refine blk_drew ?_ | refine blk_alloc ?_ _)); apply blk_put; (with_reducible repeat (first | refine blk_drewN ?_ _ | refine blk_drew ?_ | refine blk_alloc ?_ _)); apply blk_put; (with_reducible repeat (first | refine blk_drewN ?_ _ | refine blk_drew ?_ | refine blk_alloc ?_ _)); exact Aside0.out (by assumption); all_goals rfl) : p := h
theorem fa_ {α : Type} {d : Kd α} {e b g t : Nat} {ok : Nat → Prop} {v u0 u1 : Value} {xs : List α} {w : World} {cs : Array Value} (a : Aside0 (d.R e w b ok v xs)) (h : Aside0 (w.heap[g]? = some (.cells cs t (0, 0)))) (ht : ∀ q, q ∈ e :: d.E → q ≠ t := by decide) : d.R e ((w.setCell ⟨g, 0, none⟩ u0).setCell ⟨g, 1, none⟩ u1) b ok v xs := Kd.R_mono (Kd.R_far (p := ⟨g, 1, none⟩) (Kd.R_far (p := ⟨g, 0, none⟩) (Kd.R_types a.out h.out ht) (fun _ hk => hk.2) u0) (fun _ hk => hk.2) u1) (fun _ hk => hk.1)
def bl_ (n m : Nat) : Array Bool := ((List.range n).map fun i => m.testBit i).toArray
theorem lo_ {α : Type} {a b : Option α} (h : LeO a b := by first | exact LeO.refl _ | exact LeO.none _) : LeO a b := h
section
variable {P : Program} {ops : Array Oper} {rest : List Oper} {o : Oper} {a : Act} {Q : Exit → Act → World → Prop} {S : World → Prop} {ds : List Nat} {md : Region.Mode} {T : Bool × List (List Nat × List Nat)} {B : List Nat}
theorem bx_ {W : World} (N : Tmp) (cs : Array Value) (t : TypeId) (h : ∀ g, g = W.heap.size → ∀ w1, w1.heap[g]? = some (.cells cs t (0, 0)) → Below W.heap.size W w1 → wpList P ops Q rest (a.put o.dst (.pointer (some ⟨g, 0, none⟩))) w1) (hgd : o.guard = none := by rfl) (hd : o.dst = some N := by rfl) (hrun : (execOp a.eval o).run P W = .ok (.value (.pointer (some ⟨W.heap.size, 0, none⟩))) (W.alloc (.cells cs t (0, 0))) := by first | (go_simp; done) | (go_simp; rfl)) : wpList P ops Q (o :: rest) a W := box_event hgd hd hrun h
theorem gL_ {w : World} (N : Option Tmp) {f : FuncId} {fn : Func} {az : Array Operand} {ts : Array TypeId} (hf : P.funcs[f]? = some fn) (args : Array Value) (hop : o.op = .call { callee := .value (.func f), args := az, argTypes := ts }) (hargs : az.map a.eval = args) (h : Calls P f args w fun e w' => ∃ v, e = .returned v ∧ wpList P ops Q rest (a.put N v) w') (hd : o.dst = N := by rfl) (hg : o.guard = none := by rfl) (hname : (fn.name == "runtime.NumGoroutine") = false := by kernel_rfl) (hb : fn.body.isSome = true := by rfl) : wpList P ops Q (o :: rest) a w := goesL_ N hd hg hf hname hb args hop hargs h
theorem gO_ {N : Option Tmp} {w : World} {K : Act → World → Prop} {f : FuncId} {fn : Func} {az : Array Operand} {ts : Array TypeId} (hf : P.funcs[f]? = some fn) (args : Array Value) (hw : Region.wanted o (yielded ops a.tmps) = true) (hN : o.dst = N) (hop : o.op = .call { callee := .value (.func f), args := az, argTypes := ts }) (hargs : az.map a.eval = args) (h : Calls P f args w fun e w' => ∃ v, e = .returned v ∧ K (a.put N v) w') (hname : (fn.name == "runtime.NumGoroutine") = false := by kernel_rfl) (hb : fn.body.isSome = true := by rfl) : if Region.wanted o (yielded ops a.tmps) = true then Oper.wp P o a w K Q else K (a.put N undef) w := goes_ hf hname hb args hw hN hop hargs h
theorem pu_ (i : Nat) (N : Option Tmp) {v : Value} {fuel : Nat} {l : Array Bool} {w : World} (l' : Array Bool) (hT : Aside0 (rtab md ops = T)) {a' : Act} (h : wpAnyLast P md ops Q S ds fuel l' a' w) (hi : ops[i]? = some o := by rfl) (hN : o.dst = N := by rfl) (hc : anyT T l.toList l'.toList i = true := by kernel_rfl) (hQ : ∀ c a w, Q (.panic c) (a.put o.dst v) w → Q (.panic c) a w := by exact fun _ _ _ h => h) (hg : o.guard = none ∨ True := by exact .inr trivial) (hy : Yields P ops o v a := by exact Or.inl ⟨by rfl, by intro w'; go_simp; with_reducible rfl⟩) (ha : a.put N v = a' := by simp only [Act.put, List.setIfInBounds_toArray, List.set_cons_zero, List.set_cons_succ, i64_w, i32_w]; rfl) : wpAnyLast P md ops Q S ds (fuel + 1) l a w := pure_ l' hi hN (any_of hT.out hc) hQ hy ha h
theorem ta_ (i : Nat) (N : Option Tmp) {v : Value} {fuel : Nat} {l : Array Bool} {w : World} (l' : Array Bool) (hT : Aside0 (rtab md ops = T)) (hB : Aside0 (waitsOk T.2 B = true)) (hS : S w) {a' : Act} (h : wpAnyLast P md ops Q S ds fuel l' a' w) (hi : ops[i]? = some o := by rfl) (hN : o.dst = N := by rfl) (hc : takeW T B ds l.toList l'.toList i = true := by kernel_rfl) (hQ : ∀ c a w, Q (.panic c) (a.put o.dst v) w → Q (.panic c) a w := by exact fun _ _ _ h => h) (hy : YieldsIf P ops S o v a := by exact Or.inl ⟨by rfl, by intro w' hs_; (repeat obtain ⟨s_, hs_⟩ := hs_); go_simp; with_reducible rfl⟩) (ha : a.put N v = a' := by simp only [Act.put, List.setIfInBounds_toArray, List.set_cons_zero, List.set_cons_succ, i64_w, i32_w]; rfl) : wpAnyLast P md ops Q S ds (fuel + 1) l a w := take_ l' hi hN (take_ofW hT.out hB.out hc) hQ hy hS ha h
theorem on_ (i : Nat) (N : Option Tmp) {fuel : Nat} {l : Array Bool} {w : World} (l' : Array Bool) (hT : Aside0 (rtab md ops = T)) (h : ∀ K : Act → World → Prop, Shut (∀ a' w', S w' → (S w' → wpAnyLast P md ops Q S ds fuel l' a' w') → K a' w') → if Region.wanted o (yielded ops a.tmps) = true then Oper.wp P o a w K Q else K (a.put N undef) w) (hi : ops[i]? = some o := by rfl) (hN : o.dst = N := by rfl) (hc : (readyT T.2 l.toList == [i] && l.toList.set i true == l'.toList) = true := by kernel_rfl) (hd : i ∉ ds := by decide) : wpAnyLast P md ops Q S ds (fuel + 1) l a w := one_ l' hi hN (one_of hT.out hc) hd h
theorem no_ {v : Value} {fuel : Nat} {l : Array Bool} {w : World} (N : Option Tmp) {a' : Act} (h : wpAnyLast P md ops Q S ds fuel l a' w) (ha : a.put N v = a' := by simp only [Act.put, List.setIfInBounds_toArray, List.set_cons_zero, List.set_cons_succ, i64_w, i32_w]; rfl) : wpAnyLast P md ops Q S ds fuel l (a.put N v) w := norm_ ha h
end
end Go.Proofs.Ytbdnellgioimbaa.A
end
section
namespace Go.Proofs.Ytbdnellgioimbaa.A
open Go.RowKit Go.Proofs.YtbdnellgioimbaaW.PrintWords Go.Proofs.YtbdnellgioimbaaW.PrintLast Go.Proofs.YtbdnellgioimbaaW.PrintMore
attribute [local go_sem] max2_int min2_int max_two min_two max_three min_three max_four min_four
set_option linter.unusedVariables false
set_option linter.unusedSimpArgs false
def laws_szIntS.f (l0 : List Int) (a1 : Int) : Option (Int) := if (wrap64 (a1 - (l0.length : Int))) < 0 then (some (-1)) else (some (wrap64 (a1 - (l0.length : Int))))
set_option maxHeartbeats 8000000 in
set_option maxRecDepth 100000 in
theorem laws_szIntS.calls (A0 : Option Addr) (c0 : Nat) (l0 : List Int) (a1 : Int) (r : Int) (w : World) (hr0 : Kd.C (Kd.int .i64) w A0 l0.length l0) (hc0 : l0.length ≤ c0) (h : laws_szIntS.f l0 a1 = some r) :
    Calls Try.prog 57 #[.slice A0 l0.length c0, .int .i64 a1] w fun e w' => e = .returned (.int .i64 r) ∧ Drawn0 w w' := by
  have HR0 := Aside0.mk hr0
  have HC0 := Aside0.mk hc0
  clear hr0 hc0
  have H := h
  unfold laws_szIntS.f at H
  clear h
  by_cases c3 : (wrap64 (a1 - (l0.length : Int))) < 0
  · rw [if_pos c3] at H
    have c3b0 := decide_eq_true c3
    clear c3
    obtain rfl := Option.some.inj H
    go_enter Try.func57, Try.ntmps57
    go_wp2
    go_ret
    exact ⟨qc_, by repeat (first | exact Drawn0.refl _ | apply Drawn0.step)⟩
  · rw [if_neg c3] at H
    have c3b0 := decide_eq_false c3
    clear c3
    obtain rfl := Option.some.inj H
    go_enter Try.func57, Try.ntmps57
    go_wp2
    go_ret
    exact ⟨qc_, by repeat (first | exact Drawn0.refl _ | apply Drawn0.step)⟩
end Go.Proofs.Ytbdnellgioimbaa.A
end
section
namespace Go.Proofs.Ytbdnellgioimbaa.A
open Go.RowKit Go.Proofs.YtbdnellgioimbaaW.PrintWords Go.Proofs.YtbdnellgioimbaaW.PrintLast Go.Proofs.YtbdnellgioimbaaW.PrintMore
attribute [local go_sem] max2_int min2_int max_two min_two max_three min_three max_four min_four
set_option linter.unusedVariables false
set_option linter.unusedSimpArgs false
def laws_szSurface.f (l0_0 : List Int) (l0_1 : List Int) (a1 : Int) : Option (Int) := (laws_szIntS.f l0_0 a1).bind fun t102 => (if t102 < 0 then (some (-1)) else ((laws_szIntS.f l0_1 t102).bind fun t103 => (if t103 < 0 then (some (-1)) else (some t103))))
set_option maxHeartbeats 8000000 in
set_option maxRecDepth 100000 in
theorem laws_szSurface.calls (A0_0 : Option Addr) (c0_0 : Nat) (l0_0 : List Int) (A0_1 : Option Addr) (c0_1 : Nat) (l0_1 : List Int) (a1 : Int) (r : Int) (w : World) (hr0_0 : Kd.C (Kd.int .i64) w A0_0 l0_0.length l0_0) (hc0_0 : l0_0.length ≤ c0_0) (hr0_1 : Kd.C (Kd.int .i64) w A0_1 l0_1.length l0_1) (hc0_1 : l0_1.length ≤ c0_1) (h : laws_szSurface.f l0_0 l0_1 a1 = some r) :
    Calls Try.prog 14 #[.agg #[.slice A0_0 l0_0.length c0_0, .slice A0_1 l0_1.length c0_1], .int .i64 a1] w fun e w' => e = .returned (.int .i64 r) ∧ Below w.heap.size w w' := by
  have hu24 := Try.underlying24
  have HR0_0 := Aside0.mk hr0_0
  have HC0_0 := Aside0.mk hc0_0
  clear hr0_0 hc0_0
  have HR0_1 := Aside0.mk hr0_1
  have HC0_1 := Aside0.mk hc0_1
  clear hr0_1 hc0_1
  have HB := Aside0.mk (Below.refl w.heap.size w)
  have H := h
  unfold laws_szSurface.f at H
  clear h
  obtain ⟨t102, A3, H⟩ := bi_ H
  by_cases c4 : t102 < 0
  · rw [if_pos c4] at H
    have c4b0 := decide_eq_true c4
    clear c4
    obtain rfl := Option.some.inj H
    go_enter Try.func14, Try.ntmps14
    go_wp2_with (first | ((with_reducible refine gate_dst (N := 2) rfl ?_); refine bx_ 2 #[.slice A0_0 l0_0.length c0_0, .slice A0_1 l0_1.length c0_1] 24 ?_; intro gb101 hg w5 hbox hb; have BK101 := Aside0.mk hbox; have GW101 := gw_ w hg; have GE101 := GW101; replace HB := b1_ hb; clear hb hbox hg; obtain ⟨hcz6_0, hcz6_1, hfz6_0, hfz6_1⟩ := c2_ BK101) | ((with_reducible refine gate_callee (f := 57) rfl ?_); refine gL_ (some 8) Try.func57 #[.slice A0_0 l0_0.length c0_0, .int .i64 a1] rfl qa_ ?_; (with_reducible refine (laws_szIntS.calls _ _ l0_0 a1 t102 _ (cb_ HR0_0) HC0_0.out A3.out).mono ?_); rintro e w' ⟨rfl, ⟨nd, rfl⟩⟩; refine ⟨_, rfl, ?_⟩))
    go_ret
    exact ⟨qb_, hB_⟩
  · rw [if_neg c4] at H
    have c4b0 := decide_eq_false c4
    clear c4
    obtain ⟨t103, A7, H⟩ := bi_ H
    by_cases c8 : t103 < 0
    · rw [if_pos c8] at H
      have c8b0 := decide_eq_true c8
      clear c8
      obtain rfl := Option.some.inj H
      go_enter Try.func14, Try.ntmps14
      go_wp2_with (first | ((with_reducible refine gate_dst (N := 2) rfl ?_); refine bx_ 2 #[.slice A0_0 l0_0.length c0_0, .slice A0_1 l0_1.length c0_1] 24 ?_; intro gb101 hg w9 hbox hb; have BK101 := Aside0.mk hbox; have GW101 := gw_ w hg; have GE101 := GW101; replace HB := b1_ hb; clear hb hbox hg; obtain ⟨hcz10_0, hcz10_1, hfz10_0, hfz10_1⟩ := c2_ BK101) | ((with_reducible refine gate_callee (f := 57) rfl ?_); refine gL_ (some 8) Try.func57 #[.slice A0_0 l0_0.length c0_0, .int .i64 a1] rfl qa_ ?_; (with_reducible refine (laws_szIntS.calls _ _ l0_0 a1 t102 _ (cb_ HR0_0) HC0_0.out A3.out).mono ?_); rintro e w' ⟨rfl, ⟨nd, rfl⟩⟩; refine ⟨_, rfl, ?_⟩) | ((with_reducible refine gate_callee (f := 57) rfl ?_); refine gL_ (some 14) Try.func57 #[.slice A0_1 l0_1.length c0_1, .int .i64 t102] rfl qa_ ?_; (with_reducible refine (laws_szIntS.calls _ _ l0_1 t102 t103 _ (cw_ (Kd.C_below HR0_1.out hB_)) HC0_1.out A7.out).mono ?_); rintro e w' ⟨rfl, ⟨nd, rfl⟩⟩; refine ⟨_, rfl, ?_⟩))
      go_ret
      exact ⟨qb_, hB_⟩
    · rw [if_neg c8] at H
      have c8b0 := decide_eq_false c8
      clear c8
      obtain rfl := Option.some.inj H
      go_enter Try.func14, Try.ntmps14
      go_wp2_with (first | ((with_reducible refine gate_dst (N := 2) rfl ?_); refine bx_ 2 #[.slice A0_0 l0_0.length c0_0, .slice A0_1 l0_1.length c0_1] 24 ?_; intro gb101 hg w11 hbox hb; have BK101 := Aside0.mk hbox; have GW101 := gw_ w hg; have GE101 := GW101; replace HB := b1_ hb; clear hb hbox hg; obtain ⟨hcz12_0, hcz12_1, hfz12_0, hfz12_1⟩ := c2_ BK101) | ((with_reducible refine gate_callee (f := 57) rfl ?_); refine gL_ (some 8) Try.func57 #[.slice A0_0 l0_0.length c0_0, .int .i64 a1] rfl qa_ ?_; (with_reducible refine (laws_szIntS.calls _ _ l0_0 a1 t102 _ (cb_ HR0_0) HC0_0.out A3.out).mono ?_); rintro e w' ⟨rfl, ⟨nd, rfl⟩⟩; refine ⟨_, rfl, ?_⟩) | ((with_reducible refine gate_callee (f := 57) rfl ?_); refine gL_ (some 14) Try.func57 #[.slice A0_1 l0_1.length c0_1, .int .i64 t102] rfl qa_ ?_; (with_reducible refine (laws_szIntS.calls _ _ l0_1 t102 t103 _ (cw_ (Kd.C_below HR0_1.out hB_)) HC0_1.out A7.out).mono ?_); rintro e w' ⟨rfl, ⟨nd, rfl⟩⟩; refine ⟨_, rfl, ?_⟩))
      go_ret
      exact ⟨qb_, hB_⟩
end Go.Proofs.Ytbdnellgioimbaa.A
end
section
namespace Go.Proofs.Ytbdnellgioimbaa.A
open Go.RowKit Go.Proofs.YtbdnellgioimbaaW.PrintWords Go.Proofs.YtbdnellgioimbaaW.PrintLast Go.Proofs.YtbdnellgioimbaaW.PrintMore
attribute [local go_sem] max2_int min2_int max_two min_two max_three min_three max_four min_four
set_option linter.unusedVariables false
set_option linter.unusedSimpArgs false
def laws_toIntS.l0 : Nat → List Int → List Int → Int → Option (List Int)
  | 0, _, _, _ => none
  | k + 1, x0, x3, x4 => if x4 < (x0.length : Int) then (if 0 ≤ x4 then (if x4 < (x3.length : Int) then (laws_toIntS.l0 k x0 (x3.set (x4 : Int).toNat (rd x0 x4)) (wrap64 (x4 + 1))) else (none)) else (none)) else (some x3)
def laws_toIntS.f (k : Nat) (l0 : List Int) : Option (List Int) := if 0 ≤ (l0.length : Int) then (if ((l0.length : Int) : Int).toNat ≤ 35184372088832 then (laws_toIntS.l0 k l0 (List.replicate ((l0.length : Int) : Int).toNat 0) 0) else (none)) else (none)
theorem laws_toIntS.mono_l : ∀ k, (∀ y0 y1 y2, LeO (laws_toIntS.l0 k y0 y1 y2) (laws_toIntS.l0 (k + 1) y0 y1 y2))
  | 0 => fun _ _ _ r h => by simp [laws_toIntS.l0] at h
  | k + 1 => by
    have ih0 := laws_toIntS.mono_l k
    · intro y0 y1 y2
      unfold laws_toIntS.l0
      repeat' first|exact ih0 _ _ _|exact lo_|refine LeO.ite ?_ ?_|refine LeO.bind ?_ (fun _ => ?_)
theorem laws_toIntS.mono : ∀ a0 k, LeO (laws_toIntS.f k a0) (laws_toIntS.f (k + 1) a0) := by
  intro a0 k
  have ih0 := laws_toIntS.mono_l k
  unfold laws_toIntS.f
  repeat' first|exact ih0 _ _ _|exact lo_|refine LeO.ite ?_ ?_|refine LeO.bind ?_ (fun _ => ?_)
set_option maxHeartbeats 8000000 in
set_option maxRecDepth 100000 in
theorem laws_toIntS.calls (k : Nat) (A0 : Option Addr) (c0 : Nat) (l0 : List Int) (r : List Int) (w : World) (hr0 : Kd.C (Kd.int .i64) w A0 l0.length l0) (hc0 : l0.length ≤ c0) (h : laws_toIntS.f k l0 = some r) :
    Calls Try.prog 60 #[.slice A0 l0.length c0] w fun e w' => ∃ v0_ : Value, e = .returned (v0_) ∧ Kd.R (Kd.int .i64) 3 w' w.heap.size (fun _ => True) v0_ r ∧ Below w.heap.size w w' := by
  have HR0 := Aside0.mk hr0
  have HC0 := Aside0.mk hc0
  clear hr0 hc0
  have HB := Aside0.mk (Below.refl w.heap.size w)
  have H := h
  unfold laws_toIntS.f at H
  clear h
  have c2 := cp_ H
  replace H := ca_ H
  have c2b0 := eq_true c2
  have c2b1 := decide_eq_true c2
  clear c2
  have c3 := cp_ H
  replace H := ca_ H
  have c3b0 := eq_true c3
  have c3b1 := decide_eq_true c3
  clear c3
  obtain ⟨y313, hy313⟩ : ∃ y_ : List Int, y_ = (List.replicate ((l0.length : Int) : Int).toNat 0) := ⟨_, rfl⟩
  replace H : (laws_toIntS.l0 k l0 y313 0) = some r := by first | (rw [hy313]; exact H) | exact H
  have Ny313 := Aside0.mk hy313
  clear hy313
  have H' := Aside0.mk H
  clear H
  go_enter Try.func60, Try.ntmps60
  go_wp2_with (first | ((with_reducible refine gate_dst (N := 7) rfl ?_); refine Kd.R_make (Kd.int .i64) _ 3 rfl (N := 7) rfl 22 _ _ rfl (l0.length : Int) rfl rfl Try.underlying22 (.int .i64 0) 8 info3 rfl (by decide) (by omega) 0 (ok := fun _ => True) (okp := fun _ => True) rfl (fun _ hk => hk) trivial (of_decide_eq_true qe_) (Nat.le_trans (Nat.mul_le_mul_right _ (of_decide_eq_true qe_ : (l0.length : Int).toNat ≤ 35184372088832)) (by omega)) (Below.refl _ _) (Nat.le_refl _) ?_; intro v314 w4 ho5 hb hg_ hnew_; clear hg_ hnew_; (first | rw [← Ny313.out] at ho5 | (simp only [Int.reduceToNat] at ho5; rw [← Ny313.out] at ho5)); have HO315 := rl_ w ho5; replace HB := b1_ hb; clear hb ho5))
  go_loopg [4] k (fun kq v4 w' => ∃ (x3_1 : List Int) (x4_1 : Int), v4 = .int .i64 x4_1 ∧ Aside0 (laws_toIntS.l0 kq l0 x3_1 x4_1 = some r) ∧ Aside0 (kq ≤ k) ∧ Aside0 (Kd.R (Kd.int .i64) 3 w' w.heap.size (fun _ => True) v314 x3_1) ∧ Aside0 (Below w.heap.size w w'))
  case atStart => exact ⟨(y313), (0), qc_, H', ⟨Nat.le_refl _⟩, ⟨(rr_ HO315)⟩, ⟨hB_⟩⟩
  case round =>
    clear H'
    obtain ⟨x3_1, x4_1, rfl, HA, HK1, HO_3, HB⟩ := hrel
    cases gk with
    | zero => exact absurd HA.out (by simp [laws_toIntS.l0])
    | succ k1 =>
      have H := HA.out
      clear HA
      simp only [laws_toIntS.l0] at H
      by_cases c6 : x4_1 < (l0.length : Int)
      · rw [if_pos c6] at H
        have c6b0 := decide_eq_true c6
        clear c6
        have c7 := cp_ H
        replace H := ca_ H
        have c7b0 := decide_eq_true c7
        clear c7
        have c8 := cp_ H
        replace H := ca_ H
        have c8b0 := decide_eq_true c8
        clear c8
        obtain ⟨y317, hy317⟩ : ∃ y_ : List Int, y_ = (x3_1.set (x4_1 : Int).toNat (rd l0 x4_1)) := ⟨_, rfl⟩
        replace H : (laws_toIntS.l0 k1 l0 y317 (wrap64 (x4_1 + 1))) = some r := by first | (rw [hy317]; exact H) | exact H
        have Ny317 := Aside0.mk hy317
        clear hy317
        have H' := Aside0.mk H
        clear H
        have p316 : 0 ≤ (x4_1 : Int) := of_decide_eq_true qe_
        have q316 : x4_1 < (l0.length : Int) := of_decide_eq_true qe_
        obtain ⟨ad316, e316, hx316_0⟩ := Kd.at_int HR0.out x4_1 p316 q316
        cases e316
        replace hx316_0 := (HB.out.cell (World.block_lt_of_cell? w _ hx316_0)).trans hx316_0
        replace p316 := eq_true p316
        replace q316 := eq_true q316
        have p9 : 0 ≤ (x4_1 : Int) := of_decide_eq_true qe_
        have q9 : (x4_1 : Int) < ((x3_1.length : Int) : Int) := of_decide_eq_true qe_
        obtain ⟨go9, co9, eo9, gb9, gl9, cl9, HG9⟩ := Kd.R_form HO_3.out (by omega)
        (first | cases eo9 | (injection eo9 with ea_ en_ ec_; (first | subst ea_ | (injection ea_ with ea_; subst ea_)); subst ec_; clear en_))
        have GB9 := Aside0.mk gb9
        have GG9 := Aside0.mk HG9
        clear gb9 gl9 HG9
        obtain ⟨hx9_0, hf9_0⟩ := Kd.R_celln 0 HO_3.out (x4_1 : Int) p9 q9
        replace p9 := eq_true p9
        replace q9 := eq_true q9
        have HP10 := Kd.R_putg HO_3.out (x4_1 : Int) (rd l0 x4_1)
        go_wp2_with (first | ((with_reducible refine gate_store (t := 3) (p := 20) rfl ?_); refine store_event (t := 3) (p := 20) (v := ?vo_w11) (w1 := (wr.setCell ⟨go9, (x4_1 : Int).toNat, none⟩ (.int .i64 (rd l0 x4_1)))) ?hg ?ho ?hn ?hr ?_; (case ho => rfl); (case hg => rfl); (case hn => rfl); (case hr => first | (go_simp; done) | (go_simp; rfl)); intro w11 hw; have hg : wr.grownBy w11 (some go9) := (by rw [hw]; exact HP10.2); have hp_ : Kd.R (Kd.int .i64) 3 w11 w.heap.size (fun _ => True) (.slice (some ⟨go9, 0, none⟩) x3_1.length co9) y317 := (by rw [hw, Ny317.out]; exact HP10.1); clear HP10; replace HO_3 := Aside0.mk (hp_); replace HB := Aside0.mk ((by rw [hw]; exact below_set (HB.out) GB9.out : Below w.heap.size w w11)); clear hg hw hp_))
        go_roundg k1
        case measure => have := HK1.out; omega
        case rel => exact ⟨(y317), (wrap64 (x4_1 + 1)), qc_, H', ⟨by have := HK1.out; omega⟩, ⟨(rr_ HO_3)⟩, ⟨hB_⟩⟩
      · rw [if_neg c6] at H
        have c6b0 := decide_eq_false c6
        clear c6
        obtain rfl := Option.some.inj H
        go_wp2
        go_ret
        exact ⟨_, qb_, (rr_ HO_3), hB_⟩
end Go.Proofs.Ytbdnellgioimbaa.A
end
section
namespace Go.Proofs.Ytbdnellgioimbaa.A
open Go.RowKit Go.Proofs.YtbdnellgioimbaaW.PrintWords Go.Proofs.YtbdnellgioimbaaW.PrintLast Go.Proofs.YtbdnellgioimbaaW.PrintMore
attribute [local go_sem] max2_int min2_int max_two min_two max_three min_three max_four min_four
set_option linter.unusedVariables false
set_option linter.unusedSimpArgs false
def laws_toSurface.f (k : Nat) (l0_0 : List Int) (l0_1 : List Int) : Option (List Int × List Int) := (laws_toIntS.f k l0_0).bind fun t321 => ((laws_toIntS.f k l0_1).bind fun t324 => (some (t321, t324)))
theorem laws_toSurface.mono : ∀ a0 a1 k, LeO (laws_toSurface.f k a0 a1) (laws_toSurface.f (k + 1) a0 a1) := by
  intro a0 a1 k
  unfold laws_toSurface.f
  repeat' first|exact laws_toIntS.mono _ _|exact lo_|refine LeO.ite ?_ ?_|refine LeO.bind ?_ (fun _ => ?_)
set_option maxHeartbeats 8000000 in
set_option maxRecDepth 100000 in
theorem laws_toSurface.calls (k : Nat) (A0_0 : Option Addr) (c0_0 : Nat) (l0_0 : List Int) (A0_1 : Option Addr) (c0_1 : Nat) (l0_1 : List Int) (r1 : List Int) (r2 : List Int) (w : World) (hr0_0 : Kd.C (Kd.int .i64) w A0_0 l0_0.length l0_0) (hc0_0 : l0_0.length ≤ c0_0) (hr0_1 : Kd.C (Kd.int .i64) w A0_1 l0_1.length l0_1) (hc0_1 : l0_1.length ≤ c0_1) (h : laws_toSurface.f k l0_0 l0_1 = some (r1, r2)) :
    Calls Try.prog 16 #[.agg #[.slice A0_0 l0_0.length c0_0, .slice A0_1 l0_1.length c0_1]] w fun e w' => ∃ v0_ v1_ : Value, e = .returned (.agg #[v0_, v1_]) ∧ Kd.R (Kd.int .i64) 3 w' w.heap.size (fun k_ => some k_ ≠ (v1_ : Value).ownBlock) v0_ r1 ∧ Kd.R (Kd.int .i64) 3 w' w.heap.size (fun k_ => some k_ ≠ (v0_ : Value).ownBlock) v1_ r2 ∧ Below w.heap.size w w' := by
  have hu24 := Try.underlying24
  have hu27 := Try.underlying27
  have HR0_0 := Aside0.mk hr0_0
  have HC0_0 := Aside0.mk hc0_0
  clear hr0_0 hc0_0
  have HR0_1 := Aside0.mk hr0_1
  have HC0_1 := Aside0.mk hc0_1
  clear hr0_1 hc0_1
  have HB := Aside0.mk (Below.refl w.heap.size w)
  have H := h
  unfold laws_toSurface.f at H
  clear h
  obtain ⟨t321, A2, H⟩ := bi_ H
  obtain ⟨t324, A3, H⟩ := bi_ H
  simp only [Option.some.injEq, Prod.mk.injEq] at H
  obtain ⟨rfl, rfl⟩ := H
  go_enter Try.func16, Try.ntmps16
  go_wp2_with (first | ((with_reducible refine gate_dst (N := 1) rfl ?_); refine bx_ 1 #[.slice A0_0 l0_0.length c0_0, .slice A0_1 l0_1.length c0_1] 24 ?_; intro gb318 hg w4 hbox hb; have BK318 := Aside0.mk hbox; have GW318 := gw_ w hg; have GE318 := GW318; replace HB := b1_ hb; clear hb hbox hg) | ((with_reducible refine gate_dst (N := 2) rfl ?_); refine bx_ 2 #[.slice none 0 0, .slice none 0 0] 27 ?_; intro gb319 hg w5 hbox hb; have BK319 := Aside0.mk hbox; have GW319 := gw_ w hg; have GE319 := GW319; replace HB := b1_ hb; have NB318_319 := gN_ BK318 hg; have NB319_318 := gP_ BK318 hg; replace BK318 := bb_ BK318 hb; clear hb hbox hg) | ((with_reducible refine gate_dst (N := 3) rfl ?_); refine bx_ 3 #[.slice none 0 0, .slice none 0 0] 27 ?_; intro gb320 hg w6 hbox hb; have BK320 := Aside0.mk hbox; have GW320 := gw_ w hg; have GE320 := GW320; replace HB := b1_ hb; have NB318_320 := gN_ BK318 hg; have NB320_318 := gP_ BK318 hg; replace BK318 := bb_ BK318 hb; have NB319_320 := gN_ BK319 hg; have NB320_319 := gP_ BK319 hg; replace BK319 := bb_ BK319 hb; clear hb hbox hg; have hnb7 := NB318_319.out; have hnc7 := NB319_318.out; have hnb8 := NB318_320.out; have hnc8 := NB320_318.out; obtain ⟨hcz9_0, hcz9_1, hfz9_0, hfz9_1⟩ := c2_ BK318) | ((with_reducible refine gate_callee (f := 60) rfl ?_); refine gL_ (some 6) Try.func60 #[.slice A0_0 l0_0.length c0_0] rfl qa_ ?_; (with_reducible refine (laws_toIntS.calls k _ _ l0_0 t321 _ (cb_ HR0_0) HC0_0.out A2.out).mono ?_); rintro e w10 ⟨v322, rfl, ho0, hb⟩; refine ⟨_, rfl, ?_⟩; have HO323 := rl_ w ho0; replace BK318 := bb_ BK318 hb; replace BK319 := bb_ BK319 hb; replace BK320 := bb_ BK320 hb; replace HB := b1_ hb; clear hb ho0; obtain ⟨Ao11, co11, eo11⟩ := Kd.R_slice HO323.out; subst eo11; have hnb12 := NB320_319.out; have hnc12 := NB319_320.out; obtain ⟨hcz13_0, hcz13_1, hfz13_0, hfz13_1⟩ := c2_ BK320; obtain ⟨hcz14_0, hcz14_1, hfz14_0, hfz14_1⟩ := c2_ BK318) | ((with_reducible refine gate_callee (f := 60) rfl ?_); refine gL_ (some 10) Try.func60 #[.slice A0_1 l0_1.length c0_1] rfl qa_ ?_; (with_reducible refine (laws_toIntS.calls k _ _ l0_1 t324 _ (Kd.C_below HR0_1.out hB_) HC0_1.out A3.out).mono ?_); rintro e w15 ⟨v325, rfl, ho0, hb⟩; refine ⟨_, rfl, ?_⟩; have HO326 := Aside0.mk (Kd.R_lower (Kd.R_new' ho0 (Kd.R_lt (rw_ (Kd.R_mono (Kd.R_far (p := ⟨gb320, 0, none⟩) (Kd.R_types HO323.out BK320.out (by decide)) (fun _ hk => hk.2) (.slice Ao11 t321.length co11)) (fun _ h_ => h_.1))))) (below_size hB_)); replace HO323 := Aside0.mk (Kd.R_elder' (rw_ (Kd.R_mono (Kd.R_far (p := ⟨gb320, 0, none⟩) (Kd.R_types HO323.out BK320.out (by decide)) (fun _ hk => hk.2) (.slice Ao11 t321.length co11)) (fun _ h_ => h_.1))) (Kd.R_base ho0) hb); replace BK318 := Aside0.mk (blk_below (g := gb318) (o := .cells #[.slice A0_0 l0_0.length c0_0, .slice A0_1 l0_1.length c0_1] 24 (0, 0)) (by (with_reducible repeat (first | refine blk_drewN ?_ _ | refine blk_drew ?_ | refine blk_alloc ?_ _)); refine blk_far ?_ NB318_320.out _; (with_reducible repeat (first | refine blk_drewN ?_ _ | refine blk_drew ?_ | refine blk_alloc ?_ _)); exact BK318.out) hb); replace BK319 := Aside0.mk (blk_below (g := gb319) (o := .cells #[.slice none 0 0, .slice none 0 0] 27 (0, 0)) (by (with_reducible repeat (first | refine blk_drewN ?_ _ | refine blk_drew ?_ | refine blk_alloc ?_ _)); refine blk_far ?_ NB319_320.out _; (with_reducible repeat (first | refine blk_drewN ?_ _ | refine blk_drew ?_ | refine blk_alloc ?_ _)); exact BK319.out) hb); replace BK320 := Aside0.mk (blk_below (g := gb320) (o := .cells #[.slice Ao11 t321.length co11, .slice none 0 0] 27 (0, 0)) (by (with_reducible repeat (first | refine blk_drewN ?_ _ | refine blk_drew ?_ | refine blk_alloc ?_ _)); refine blk_put (cs := #[.slice none 0 0, .slice none 0 0]) ?_ 0 _ rfl; (with_reducible repeat (first | refine blk_drewN ?_ _ | refine blk_drew ?_ | refine blk_alloc ?_ _)); exact BK320.out) hb); replace HB := b1_ hb; clear hb ho0; obtain ⟨Ao16, co16, eo16⟩ := Kd.R_slice HO326.out; subst eo16; obtain ⟨hcz17_0, hcz17_1, hfz17_0, hfz17_1⟩ := c2_ BK320; obtain ⟨hcz18_0, hcz18_1, hfz18_0, hfz18_1⟩ := c2_ BK319))
  refine bodyPost_ret (results_cell_row rfl _ _ gb319 27 #[.slice Ao11 t321.length co11, .slice Ao16 t324.length co16] (0, 0) _ rfl (by (with_reducible repeat (first | refine blk_drewN ?_ _ | refine blk_drew ?_ | refine blk_alloc ?_ _)); refine blk_put (cs := #[.slice Ao11 t321.length co11, .slice none 0 0]) ?_ 1 _ rfl; (with_reducible repeat (first | refine blk_drewN ?_ _ | refine blk_drew ?_ | refine blk_alloc ?_ _)); refine blk_put (cs := #[.slice none 0 0, .slice none 0 0]) ?_ 0 _ rfl; (with_reducible repeat (first | refine blk_drewN ?_ _ | refine blk_drew ?_ | refine blk_alloc ?_ _)); refine blk_far ?_ NB319_320.out _; (with_reducible repeat (first | refine blk_drewN ?_ _ | refine blk_drew ?_ | refine blk_alloc ?_ _)); exact BK319.out) Try.underlying27 rfl (by kernel_rfl)) rfl ?_
  exact ⟨_, _, qb_, (rw_ (Kd.R_mono (Kd.R_far (p := ⟨gb319, 1, none⟩) (Kd.R_far (p := ⟨gb319, 0, none⟩) (Kd.R_far (p := ⟨gb320, 1, none⟩) (Kd.R_types (Kd.R_types HO323.out BK320.out (by decide)) BK319.out (by decide)) (fun _ hk => hk.1.2) (.slice Ao16 t324.length co16)) (fun _ hk => hk.2) (.slice Ao11 t321.length co11)) (fun _ hk => hk.2) (.slice Ao16 t324.length co16)) (fun _ hk => hk.1.1.2))), (rw_ (Kd.R_mono (Kd.R_far (p := ⟨gb319, 1, none⟩) (Kd.R_far (p := ⟨gb319, 0, none⟩) (Kd.R_far (p := ⟨gb320, 1, none⟩) (Kd.R_types (Kd.R_types HO326.out BK320.out (by decide)) BK319.out (by decide)) (fun _ hk => hk.1.2) (.slice Ao16 t324.length co16)) (fun _ hk => hk.2) (.slice Ao11 t321.length co11)) (fun _ hk => hk.2) (.slice Ao16 t324.length co16)) (fun _ hk => hk.1.1.2))), hB_⟩
end Go.Proofs.Ytbdnellgioimbaa.A
end
section
namespace Go.Proofs.Ytbdnellgioimbaa.A
open Go.RowKit Go.Proofs.YtbdnellgioimbaaW.PrintWords Go.Proofs.YtbdnellgioimbaaW.PrintLast Go.Proofs.YtbdnellgioimbaaW.PrintMore
attribute [local go_sem] max2_int min2_int max_two min_two max_three min_three max_four min_four
set_option linter.unusedVariables false
set_option linter.unusedSimpArgs false
def laws_eqIntS.l0 : Nat → List Int → List Int → Int → Option (Bool)
  | 0, _, _, _ => none
  | k + 1, x0, x1, x5 => if x5 < (x0.length : Int) then (if 0 ≤ x5 then (if x5 < (x1.length : Int) then (if (rd x0 x5) = (rd x1 x5) then (laws_eqIntS.l0 k x0 x1 (wrap64 (x5 + 1))) else (some false)) else (none)) else (none)) else (some true)
def laws_eqIntS.f (k : Nat) (l0 : List Int) (l1 : List Int) : Option (Bool) := if (l0.length : Int) = (l1.length : Int) then (laws_eqIntS.l0 k l0 l1 0) else (some false)
theorem laws_eqIntS.mono_l : ∀ k, (∀ y0 y1 y2, LeO (laws_eqIntS.l0 k y0 y1 y2) (laws_eqIntS.l0 (k + 1) y0 y1 y2))
  | 0 => fun _ _ _ r h => by simp [laws_eqIntS.l0] at h
  | k + 1 => by
    have ih0 := laws_eqIntS.mono_l k
    · intro y0 y1 y2
      unfold laws_eqIntS.l0
      repeat' first|exact ih0 _ _ _|exact lo_|refine LeO.ite ?_ ?_|refine LeO.bind ?_ (fun _ => ?_)
theorem laws_eqIntS.mono : ∀ a0 a1 k, LeO (laws_eqIntS.f k a0 a1) (laws_eqIntS.f (k + 1) a0 a1) := by
  intro a0 a1 k
  have ih0 := laws_eqIntS.mono_l k
  unfold laws_eqIntS.f
  repeat' first|exact ih0 _ _ _|exact lo_|refine LeO.ite ?_ ?_|refine LeO.bind ?_ (fun _ => ?_)
set_option maxHeartbeats 8000000 in
set_option maxRecDepth 100000 in
theorem laws_eqIntS.calls (k : Nat) (A0 : Option Addr) (c0 : Nat) (l0 : List Int) (A1 : Option Addr) (c1 : Nat) (l1 : List Int) (r : Bool) (w : World) (hr0 : Kd.C (Kd.int .i64) w A0 l0.length l0) (hc0 : l0.length ≤ c0) (hr1 : Kd.C (Kd.int .i64) w A1 l1.length l1) (hc1 : l1.length ≤ c1) (h : laws_eqIntS.f k l0 l1 = some r) :
    Calls Try.prog 36 #[.slice A0 l0.length c0, .slice A1 l1.length c1] w fun e w' => e = .returned (.bool r) ∧ Drawn0 w w' := by
  have HR0 := Aside0.mk hr0
  have HC0 := Aside0.mk hc0
  clear hr0 hc0
  have HR1 := Aside0.mk hr1
  have HC1 := Aside0.mk hc1
  clear hr1 hc1
  have H := h
  unfold laws_eqIntS.f at H
  clear h
  by_cases c3 : (l0.length : Int) = (l1.length : Int)
  · rw [if_pos c3] at H
    have c3b0 : ((l0.length : Int) == (l1.length : Int)) = true := beq_iff_eq.mpr c3
    have c3b1 : ((l0.length : Int) != (l1.length : Int)) = false := bne_eq_false_iff_eq.mpr c3
    have c3b2 : (l0.length == l1.length) = true := by first | simpa using c3 | (simp at c3 ⊢; omega)
    clear c3
    have H' := Aside0.mk H
    clear H
    go_enter Try.func36, Try.ntmps36
    go_wp2
    repeat (go_quiet (fail); try go_wp2)
    go_loopg [5] k (fun kq v5 w' => ∃ (x5_1 : Int), v5 = .int .i64 x5_1 ∧ Aside0 (laws_eqIntS.l0 kq l0 l1 x5_1 = some r) ∧ Aside0 (kq ≤ k) ∧ Drawn0 w w')
    case atStart => exact ⟨(0), qc_, H', ⟨Nat.le_refl _⟩, by repeat (first | exact Drawn0.refl _ | apply Drawn0.step)⟩
    case round =>
      clear H'
      obtain ⟨x5_1, rfl, HA, HK1, ⟨m1, rfl⟩⟩ := hrel
      cases gk with
      | zero => exact absurd HA.out (by simp [laws_eqIntS.l0])
      | succ k1 =>
        have H := HA.out
        clear HA
        simp only [laws_eqIntS.l0] at H
        by_cases c4 : x5_1 < (l0.length : Int)
        · rw [if_pos c4] at H
          have c4b0 := decide_eq_true c4
          clear c4
          have c5 := cp_ H
          replace H := ca_ H
          have c5b0 := decide_eq_true c5
          clear c5
          have c6 := cp_ H
          replace H := ca_ H
          have c6b0 := decide_eq_true c6
          clear c6
          by_cases c7 : (rd l0 x5_1) = (rd l1 x5_1)
          · rw [if_pos c7] at H
            have c7b0 : ((rd l0 x5_1) == (rd l1 x5_1)) = true := beq_iff_eq.mpr c7
            have c7b1 : ((rd l0 x5_1) != (rd l1 x5_1)) = false := bne_eq_false_iff_eq.mpr c7
            clear c7
            have H' := Aside0.mk H
            clear H
            have p540 : 0 ≤ (x5_1 : Int) := of_decide_eq_true qe_
            have q540 : x5_1 < (l0.length : Int) := of_decide_eq_true qe_
            obtain ⟨ad540, e540, hx540_0⟩ := Kd.at_int HR0.out x5_1 p540 q540
            cases e540
            replace p540 := eq_true p540
            replace q540 := eq_true q540
            have p541 : 0 ≤ (x5_1 : Int) := of_decide_eq_true qe_
            have q541 : x5_1 < (l1.length : Int) := of_decide_eq_true qe_
            obtain ⟨ad541, e541, hx541_0⟩ := Kd.at_int HR1.out x5_1 p541 q541
            cases e541
            replace p541 := eq_true p541
            replace q541 := eq_true q541
            go_wp2
            repeat (go_quiet (fail); try go_wp2)
            go_roundg k1
            case measure => have := HK1.out; omega
            case rel => exact ⟨(wrap64 (x5_1 + 1)), qc_, H', ⟨by have := HK1.out; omega⟩, by repeat (first | exact Drawn0.refl _ | apply Drawn0.step)⟩
          · rw [if_neg c7] at H
            have c7b0 : ((rd l0 x5_1) == (rd l1 x5_1)) = false := beq_eq_false_iff_ne.mpr c7
            have c7b1 : ((rd l0 x5_1) != (rd l1 x5_1)) = true := bne_iff_ne.mpr c7
            obtain rfl := Option.some.inj H
            have p540 : 0 ≤ (x5_1 : Int) := of_decide_eq_true qe_
            have q540 : x5_1 < (l0.length : Int) := of_decide_eq_true qe_
            obtain ⟨ad540, e540, hx540_0⟩ := Kd.at_int HR0.out x5_1 p540 q540
            cases e540
            replace p540 := eq_true p540
            replace q540 := eq_true q540
            have p541 : 0 ≤ (x5_1 : Int) := of_decide_eq_true qe_
            have q541 : x5_1 < (l1.length : Int) := of_decide_eq_true qe_
            obtain ⟨ad541, e541, hx541_0⟩ := Kd.at_int HR1.out x5_1 p541 q541
            cases e541
            replace p541 := eq_true p541
            replace q541 := eq_true q541
            go_wp2
            repeat (go_quiet (fail); try go_wp2)
            go_ret
            exact ⟨qc_, by repeat (first | exact Drawn0.refl _ | apply Drawn0.step)⟩
        · rw [if_neg c4] at H
          have c4b0 := decide_eq_false c4
          clear c4
          obtain rfl := Option.some.inj H
          go_wp2
          repeat (go_quiet (fail); try go_wp2)
          go_ret
          exact ⟨qc_, by repeat (first | exact Drawn0.refl _ | apply Drawn0.step)⟩
  · rw [if_neg c3] at H
    have c3b0 : ((l0.length : Int) == (l1.length : Int)) = false := beq_eq_false_iff_ne.mpr c3
    have c3b1 : ((l0.length : Int) != (l1.length : Int)) = true := bne_iff_ne.mpr c3
    have c3b2 : (l0.length == l1.length) = false := by first | simpa using c3 | (simp at c3 ⊢; omega)
    obtain rfl := Option.some.inj H
    go_enter Try.func36, Try.ntmps36
    go_wp2
    repeat (go_quiet (fail); try go_wp2)
    go_ret
    exact ⟨qc_, by repeat (first | exact Drawn0.refl _ | apply Drawn0.step)⟩
end Go.Proofs.Ytbdnellgioimbaa.A
end
section
namespace Go.Proofs.Ytbdnellgioimbaa.A
open Go.RowKit Go.Proofs.YtbdnellgioimbaaW.PrintWords Go.Proofs.YtbdnellgioimbaaW.PrintLast Go.Proofs.YtbdnellgioimbaaW.PrintMore
attribute [local go_sem] max2_int min2_int max_two min_two max_three min_three max_four min_four
set_option linter.unusedVariables false
set_option linter.unusedSimpArgs false
def laws_eqSurface.f (k : Nat) (l0_0 : List Int) (l0_1 : List Int) (l1_0 : List Int) (l1_1 : List Int) : Option (Bool) := (laws_eqIntS.f k l0_0 l1_0).bind fun t544 => (if t544 = true then ((laws_eqIntS.f k l0_1 l1_1).bind fun t545 => (if t545 = true then (some true) else (some false))) else (some false))
theorem laws_eqSurface.mono : ∀ a0 a1 a2 a3 k, LeO (laws_eqSurface.f k a0 a1 a2 a3) (laws_eqSurface.f (k + 1) a0 a1 a2 a3) := by
  intro a0 a1 a2 a3 k
  unfold laws_eqSurface.f
  repeat' first|exact laws_eqIntS.mono _ _ _|exact lo_|refine LeO.ite ?_ ?_|refine LeO.bind ?_ (fun _ => ?_)
set_option maxHeartbeats 8000000 in
set_option maxRecDepth 100000 in
theorem laws_eqSurface.calls (k : Nat) (A0_0 : Option Addr) (c0_0 : Nat) (l0_0 : List Int) (A0_1 : Option Addr) (c0_1 : Nat) (l0_1 : List Int) (A1_0 : Option Addr) (c1_0 : Nat) (l1_0 : List Int) (A1_1 : Option Addr) (c1_1 : Nat) (l1_1 : List Int) (r : Bool) (w : World) (hr0_0 : Kd.C (Kd.int .i64) w A0_0 l0_0.length l0_0) (hc0_0 : l0_0.length ≤ c0_0) (hr0_1 : Kd.C (Kd.int .i64) w A0_1 l0_1.length l0_1) (hc0_1 : l0_1.length ≤ c0_1) (hr1_0 : Kd.C (Kd.int .i64) w A1_0 l1_0.length l1_0) (hc1_0 : l1_0.length ≤ c1_0) (hr1_1 : Kd.C (Kd.int .i64) w A1_1 l1_1.length l1_1) (hc1_1 : l1_1.length ≤ c1_1) (h : laws_eqSurface.f k l0_0 l0_1 l1_0 l1_1 = some r) :
    Calls Try.prog 18 #[.agg #[.slice A0_0 l0_0.length c0_0, .slice A0_1 l0_1.length c0_1], .agg #[.slice A1_0 l1_0.length c1_0, .slice A1_1 l1_1.length c1_1]] w fun e w' => e = .returned (.bool r) ∧ Below w.heap.size w w' := by
  have hu27 := Try.underlying27
  have HR0_0 := Aside0.mk hr0_0
  have HC0_0 := Aside0.mk hc0_0
  clear hr0_0 hc0_0
  have HR0_1 := Aside0.mk hr0_1
  have HC0_1 := Aside0.mk hc0_1
  clear hr0_1 hc0_1
  have HR1_0 := Aside0.mk hr1_0
  have HC1_0 := Aside0.mk hc1_0
  clear hr1_0 hc1_0
  have HR1_1 := Aside0.mk hr1_1
  have HC1_1 := Aside0.mk hc1_1
  clear hr1_1 hc1_1
  have HB := Aside0.mk (Below.refl w.heap.size w)
  have H := h
  unfold laws_eqSurface.f at H
  clear h
  obtain ⟨t544, A3, H⟩ := bi_ H
  by_cases c4 : t544 = true
  · subst c4
    rw [if_pos rfl] at H
    obtain ⟨t545, A5, H⟩ := bi_ H
    by_cases c6 : t545 = true
    · subst c6
      rw [if_pos rfl] at H
      obtain rfl := Option.some.inj H
      go_enter Try.func18, Try.ntmps18
      go_wp2_with (first | ((with_reducible refine gate_dst (N := 2) rfl ?_); refine bx_ 2 #[.slice A0_0 l0_0.length c0_0, .slice A0_1 l0_1.length c0_1] 27 ?_; intro gb542 hg w7 hbox hb; have BK542 := Aside0.mk hbox; have GW542 := gw_ w hg; have GE542 := GW542; replace HB := b1_ hb; clear hb hbox hg) | ((with_reducible refine gate_dst (N := 3) rfl ?_); refine bx_ 3 #[.slice A1_0 l1_0.length c1_0, .slice A1_1 l1_1.length c1_1] 27 ?_; intro gb543 hg w8 hbox hb; have BK543 := Aside0.mk hbox; have GW543 := gw_ w hg; have GE543 := GW543; replace HB := b1_ hb; have NB542_543 := gN_ BK542 hg; have NB543_542 := gP_ BK542 hg; replace BK542 := bb_ BK542 hb; clear hb hbox hg; have hnb9 := NB542_543.out; have hnc9 := NB543_542.out; obtain ⟨hcz10_0, hcz10_1, hfz10_0, hfz10_1⟩ := c2_ BK542; obtain ⟨hcz11_0, hcz11_1, hfz11_0, hfz11_1⟩ := c2_ BK543) | ((with_reducible refine gate_callee (f := 36) rfl ?_); refine gL_ (some 9) Try.func36 #[.slice A0_0 l0_0.length c0_0, .slice A1_0 l1_0.length c1_0] rfl qa_ ?_; (with_reducible refine (laws_eqIntS.calls k _ _ l0_0 _ _ l1_0 true _ (cb_ HR0_0) HC0_0.out (cb_ HR1_0) HC1_0.out A3.out).mono ?_); rintro e w' ⟨rfl, ⟨nd, rfl⟩⟩; refine ⟨_, rfl, ?_⟩) | ((with_reducible refine gate_callee (f := 36) rfl ?_); refine gL_ (some 15) Try.func36 #[.slice A0_1 l0_1.length c0_1, .slice A1_1 l1_1.length c1_1] rfl qa_ ?_; (with_reducible refine (laws_eqIntS.calls k _ _ l0_1 _ _ l1_1 true _ (cw_ (Kd.C_below HR0_1.out hB_)) HC0_1.out (cw_ (Kd.C_below HR1_1.out hB_)) HC1_1.out A5.out).mono ?_); rintro e w' ⟨rfl, ⟨nd, rfl⟩⟩; refine ⟨_, rfl, ?_⟩))
      go_ret
      exact ⟨qb_, hB_⟩
    · replace c6 := Bool.eq_false_iff.mpr c6
      subst c6
      have H1 : (some false) = some r := by rw [if_neg (show ¬ (false = true) by decide)] at H; exact H
      clear H
      have H := H1
      clear H1
      obtain rfl := Option.some.inj H
      go_enter Try.func18, Try.ntmps18
      go_wp2_with (first | ((with_reducible refine gate_dst (N := 2) rfl ?_); refine bx_ 2 #[.slice A0_0 l0_0.length c0_0, .slice A0_1 l0_1.length c0_1] 27 ?_; intro gb542 hg w12 hbox hb; have BK542 := Aside0.mk hbox; have GW542 := gw_ w hg; have GE542 := GW542; replace HB := b1_ hb; clear hb hbox hg) | ((with_reducible refine gate_dst (N := 3) rfl ?_); refine bx_ 3 #[.slice A1_0 l1_0.length c1_0, .slice A1_1 l1_1.length c1_1] 27 ?_; intro gb543 hg w13 hbox hb; have BK543 := Aside0.mk hbox; have GW543 := gw_ w hg; have GE543 := GW543; replace HB := b1_ hb; have NB542_543 := gN_ BK542 hg; have NB543_542 := gP_ BK542 hg; replace BK542 := bb_ BK542 hb; clear hb hbox hg; have hnb14 := NB542_543.out; have hnc14 := NB543_542.out; obtain ⟨hcz15_0, hcz15_1, hfz15_0, hfz15_1⟩ := c2_ BK542; obtain ⟨hcz16_0, hcz16_1, hfz16_0, hfz16_1⟩ := c2_ BK543) | ((with_reducible refine gate_callee (f := 36) rfl ?_); refine gL_ (some 9) Try.func36 #[.slice A0_0 l0_0.length c0_0, .slice A1_0 l1_0.length c1_0] rfl qa_ ?_; (with_reducible refine (laws_eqIntS.calls k _ _ l0_0 _ _ l1_0 true _ (cb_ HR0_0) HC0_0.out (cb_ HR1_0) HC1_0.out A3.out).mono ?_); rintro e w' ⟨rfl, ⟨nd, rfl⟩⟩; refine ⟨_, rfl, ?_⟩) | ((with_reducible refine gate_callee (f := 36) rfl ?_); refine gL_ (some 15) Try.func36 #[.slice A0_1 l0_1.length c0_1, .slice A1_1 l1_1.length c1_1] rfl qa_ ?_; (with_reducible refine (laws_eqIntS.calls k _ _ l0_1 _ _ l1_1 false _ (cw_ (Kd.C_below HR0_1.out hB_)) HC0_1.out (cw_ (Kd.C_below HR1_1.out hB_)) HC1_1.out A5.out).mono ?_); rintro e w' ⟨rfl, ⟨nd, rfl⟩⟩; refine ⟨_, rfl, ?_⟩))
      go_ret
      exact ⟨qb_, hB_⟩
  · replace c4 := Bool.eq_false_iff.mpr c4
    subst c4
    have H1 : (some false) = some r := by rw [if_neg (show ¬ (false = true) by decide)] at H; exact H
    clear H
    have H := H1
    clear H1
    obtain rfl := Option.some.inj H
    go_enter Try.func18, Try.ntmps18
    go_wp2_with (first | ((with_reducible refine gate_dst (N := 2) rfl ?_); refine bx_ 2 #[.slice A0_0 l0_0.length c0_0, .slice A0_1 l0_1.length c0_1] 27 ?_; intro gb542 hg w17 hbox hb; have BK542 := Aside0.mk hbox; have GW542 := gw_ w hg; have GE542 := GW542; replace HB := b1_ hb; clear hb hbox hg) | ((with_reducible refine gate_dst (N := 3) rfl ?_); refine bx_ 3 #[.slice A1_0 l1_0.length c1_0, .slice A1_1 l1_1.length c1_1] 27 ?_; intro gb543 hg w18 hbox hb; have BK543 := Aside0.mk hbox; have GW543 := gw_ w hg; have GE543 := GW543; replace HB := b1_ hb; have NB542_543 := gN_ BK542 hg; have NB543_542 := gP_ BK542 hg; replace BK542 := bb_ BK542 hb; clear hb hbox hg; have hnb19 := NB542_543.out; have hnc19 := NB543_542.out; obtain ⟨hcz20_0, hcz20_1, hfz20_0, hfz20_1⟩ := c2_ BK542; obtain ⟨hcz21_0, hcz21_1, hfz21_0, hfz21_1⟩ := c2_ BK543) | ((with_reducible refine gate_callee (f := 36) rfl ?_); refine gL_ (some 9) Try.func36 #[.slice A0_0 l0_0.length c0_0, .slice A1_0 l1_0.length c1_0] rfl qa_ ?_; (with_reducible refine (laws_eqIntS.calls k _ _ l0_0 _ _ l1_0 false _ (cb_ HR0_0) HC0_0.out (cb_ HR1_0) HC1_0.out A3.out).mono ?_); rintro e w' ⟨rfl, ⟨nd, rfl⟩⟩; refine ⟨_, rfl, ?_⟩))
    go_ret
    exact ⟨qb_, hB_⟩
end Go.Proofs.Ytbdnellgioimbaa.A
end
section
namespace Go.Proofs.Ytbdnellgioimbaa.A
open Go.RowKit Go.Proofs.YtbdnellgioimbaaW.PrintWords Go.Proofs.YtbdnellgioimbaaW.PrintLast Go.Proofs.YtbdnellgioimbaaW.PrintMore
attribute [local go_sem] max2_int min2_int max_two min_two max_three min_three max_four min_four
set_option linter.unusedVariables false
set_option linter.unusedSimpArgs false
def spec_l02Has.l0 : Nat → Int → List Int → Int → Int → Option (Bool)
  | 0, _, _, _, _ => none
  | k + 1, x1, x7, x8, x9 => if x9 < x8 then (if 0 ≤ x9 then (if x9 < (x7.length : Int) then (if (rd x7 x9) = x1 then (some true) else (spec_l02Has.l0 k x1 x7 x8 (wrap64 (x9 + 1)))) else (none)) else (none)) else (some false)
def spec_l02Has.f (k : Nat) (l0 : List Int) (a1 : Int) : Option (Bool) := spec_l02Has.l0 k a1 l0 (l0.length : Int) 0
theorem spec_l02Has.mono_l : ∀ k, (∀ y0 y1 y2 y3, LeO (spec_l02Has.l0 k y0 y1 y2 y3) (spec_l02Has.l0 (k + 1) y0 y1 y2 y3))
  | 0 => fun _ _ _ _ r h => by simp [spec_l02Has.l0] at h
  | k + 1 => by
    have ih0 := spec_l02Has.mono_l k
    · intro y0 y1 y2 y3
      unfold spec_l02Has.l0
      repeat' first|exact ih0 _ _ _ _|exact lo_|refine LeO.ite ?_ ?_|refine LeO.bind ?_ (fun _ => ?_)
theorem spec_l02Has.mono : ∀ a0 a1 k, LeO (spec_l02Has.f k a0 a1) (spec_l02Has.f (k + 1) a0 a1) := by
  intro a0 a1 k
  have ih0 := spec_l02Has.mono_l k
  unfold spec_l02Has.f
  repeat' first|exact ih0 _ _ _ _|exact lo_|refine LeO.ite ?_ ?_|refine LeO.bind ?_ (fun _ => ?_)
set_option maxHeartbeats 8000000 in
set_option maxRecDepth 100000 in
theorem spec_l02Has.calls (k : Nat) (A0 : Option Addr) (c0 : Nat) (l0 : List Int) (a1 : Int) (r : Bool) (w : World) (hr0 : Kd.C (Kd.int .i64) w A0 l0.length l0) (hc0 : l0.length ≤ c0) (h : spec_l02Has.f k l0 a1 = some r) :
    Calls Try.prog 155 #[.slice A0 l0.length c0, .int .i64 a1] w fun e w' => e = .returned (.bool r) ∧ Drawn0 w w' := by
  have HR0 := Aside0.mk hr0
  have HC0 := Aside0.mk hc0
  clear hr0 hc0
  have H := h
  unfold spec_l02Has.f at H
  clear h
  have H' := Aside0.mk H
  clear H
  go_enter Try.func155, Try.ntmps155
  go_wp2
  go_loopg [9] k (fun kq v9 w' => ∃ (x9_1 : Int), v9 = .int .i64 x9_1 ∧ Aside0 (spec_l02Has.l0 kq a1 l0 (l0.length : Int) x9_1 = some r) ∧ Aside0 (kq ≤ k) ∧ Drawn0 w w')
  case atStart => exact ⟨(0), qc_, H', ⟨Nat.le_refl _⟩, by repeat (first | exact Drawn0.refl _ | apply Drawn0.step)⟩
  case round =>
    clear H'
    obtain ⟨x9_1, rfl, HA, HK1, ⟨m1, rfl⟩⟩ := hrel
    cases gk with
    | zero => exact absurd HA.out (by simp [spec_l02Has.l0])
    | succ k1 =>
      have H := HA.out
      clear HA
      simp only [spec_l02Has.l0] at H
      by_cases c3 : x9_1 < (l0.length : Int)
      · rw [if_pos c3] at H
        have c3b0 := decide_eq_true c3
        clear c3
        have c4 := cp_ H
        replace H := ca_ H
        have c4b0 := decide_eq_true c4
        clear c4
        have c5 := cp_ H
        replace H := ca_ H
        have c5b0 := decide_eq_true c5
        clear c5
        by_cases c6 : (rd l0 x9_1) = a1
        · rw [if_pos c6] at H
          have c6b0 : ((rd l0 x9_1) == a1) = true := beq_iff_eq.mpr c6
          have c6b1 : ((rd l0 x9_1) != a1) = false := bne_eq_false_iff_eq.mpr c6
          clear c6
          obtain rfl := Option.some.inj H
          have p104 : 0 ≤ (x9_1 : Int) := of_decide_eq_true qe_
          have q104 : x9_1 < (l0.length : Int) := of_decide_eq_true qe_
          obtain ⟨ad104, e104, hx104_0⟩ := Kd.at_int HR0.out x9_1 p104 q104
          cases e104
          replace p104 := eq_true p104
          replace q104 := eq_true q104
          go_wp2
          go_ret
          exact ⟨qc_, by repeat (first | exact Drawn0.refl _ | apply Drawn0.step)⟩
        · rw [if_neg c6] at H
          have c6b0 : ((rd l0 x9_1) == a1) = false := beq_eq_false_iff_ne.mpr c6
          have c6b1 : ((rd l0 x9_1) != a1) = true := bne_iff_ne.mpr c6
          have H' := Aside0.mk H
          clear H
          have p104 : 0 ≤ (x9_1 : Int) := of_decide_eq_true qe_
          have q104 : x9_1 < (l0.length : Int) := of_decide_eq_true qe_
          obtain ⟨ad104, e104, hx104_0⟩ := Kd.at_int HR0.out x9_1 p104 q104
          cases e104
          replace p104 := eq_true p104
          replace q104 := eq_true q104
          go_wp2
          go_roundg k1
          case measure => have := HK1.out; omega
          case rel => exact ⟨(wrap64 (x9_1 + 1)), qc_, H', ⟨by have := HK1.out; omega⟩, by repeat (first | exact Drawn0.refl _ | apply Drawn0.step)⟩
      · rw [if_neg c3] at H
        have c3b0 := decide_eq_false c3
        clear c3
        obtain rfl := Option.some.inj H
        go_wp2
        go_ret
        exact ⟨qc_, by repeat (first | exact Drawn0.refl _ | apply Drawn0.step)⟩
end Go.Proofs.Ytbdnellgioimbaa.A
end
section
namespace Go.Proofs.Ytbdnellgioimbaa.A
open Go.RowKit Go.Proofs.YtbdnellgioimbaaW.PrintWords Go.Proofs.YtbdnellgioimbaaW.PrintLast Go.Proofs.YtbdnellgioimbaaW.PrintMore
attribute [local go_sem] max2_int min2_int max_two min_two max_three min_three max_four min_four
set_option linter.unusedVariables false
set_option linter.unusedSimpArgs false
mutual
def spec_l02Reach.l0 : Nat → List Int → List Int → List Int → Int → Option (List Int)
  | 0, _, _, _, _ => none
  | k + 1, x0, x1, x7, x8 => if x8 < (x7.length : Int) then (if 0 ≤ x8 then (if 0 ≤ (rd x7 x8) then (if (rd x7 x8) < (x0.length : Int) then (if (rd x7 x8) < (x1.length : Int) then ((some (([rd x0 (rd x7 x8), rd x1 (rd x7 x8)] : List Int) : List Int)).bind fun y112 => (spec_l02Reach.l1 k x0 x1 x7 x8 y112 (y112.length : Int) 0)) else (none)) else (none)) else (none)) else (none)) else (some x7)
def spec_l02Reach.l1 : Nat → List Int → List Int → List Int → Int → List Int → Int → Int → Option (List Int)
  | 0, _, _, _, _, _, _, _ => none
  | k + 1, x0, x1, x7, x8, x33, x34, x35 => if x35 < x34 then (if 0 ≤ x35 then (if x35 < (x33.length : Int) then ((spec_l02Has.f k x7 (rd x33 x35)).bind fun t116 => (if t116 = true then (spec_l02Reach.l1 k x0 x1 x7 x8 x33 x34 (wrap64 (x35 + 1))) else (if x7.length < 17592186044416 then (spec_l02Reach.l1 k x0 x1 (x7 ++ [rd x33 x35]) x8 x33 x34 (wrap64 (x35 + 1))) else (none)))) else (none)) else (none)) else (spec_l02Reach.l0 k x0 x1 x7 (wrap64 (x8 + 1)))
end
def spec_l02Reach.f (k : Nat) (l0 : List Int) (l1 : List Int) (a2 : Int) : Option (List Int) := spec_l02Reach.l0 k l0 l1 (([a2] : List Int)) 0
theorem spec_l02Reach.mono_l : ∀ k, (∀ y0 y1 y2 y3, LeO (spec_l02Reach.l0 k y0 y1 y2 y3) (spec_l02Reach.l0 (k + 1) y0 y1 y2 y3)) ∧ (∀ y0 y1 y2 y3 y4 y5 y6, LeO (spec_l02Reach.l1 k y0 y1 y2 y3 y4 y5 y6) (spec_l02Reach.l1 (k + 1) y0 y1 y2 y3 y4 y5 y6))
  | 0 => ⟨fun _ _ _ _ r h => by simp [spec_l02Reach.l0] at h, fun _ _ _ _ _ _ _ r h => by simp [spec_l02Reach.l1] at h⟩
  | k + 1 => by
    obtain ⟨ih0, ih1⟩ := spec_l02Reach.mono_l k
    refine ⟨?_, ?_⟩
    · intro y0 y1 y2 y3
      unfold spec_l02Reach.l0
      repeat' first|exact ih0 _ _ _ _|exact ih1 _ _ _ _ _ _ _|exact spec_l02Has.mono _ _ _|exact lo_|refine LeO.ite ?_ ?_|refine LeO.bind ?_ (fun _ => ?_)
    · intro y0 y1 y2 y3 y4 y5 y6
      unfold spec_l02Reach.l1
      repeat' first|exact ih0 _ _ _ _|exact ih1 _ _ _ _ _ _ _|exact spec_l02Has.mono _ _ _|exact lo_|refine LeO.ite ?_ ?_|refine LeO.bind ?_ (fun _ => ?_)
theorem spec_l02Reach.mono : ∀ a0 a1 a2 k, LeO (spec_l02Reach.f k a0 a1 a2) (spec_l02Reach.f (k + 1) a0 a1 a2) := by
  intro a0 a1 a2 k
  obtain ⟨ih0, ih1⟩ := spec_l02Reach.mono_l k
  unfold spec_l02Reach.f
  repeat' first|exact ih0 _ _ _ _|exact ih1 _ _ _ _ _ _ _|exact spec_l02Has.mono _ _ _|exact lo_|refine LeO.ite ?_ ?_|refine LeO.bind ?_ (fun _ => ?_)
def spec_l02Reach.T5 : Bool × List (List Nat × List Nat) := (true, [([], []), ([], []), ([], []), ([1, 2], [1, 2]), ([3], [3]), ([0, 4], [0, 4]), ([5], [5]), ([], []), ([], []), ([], []), ([8, 9], [8, 9]), ([10], [10]), ([7, 11], [7, 11]), ([12], [12]), ([6, 13], [6, 13]), ([14], [14]), ([], [])])
def spec_l02Reach.B5 : List Nat := [0, 0, 0, 6, 14, 31, 63, 0, 0, 0, 768, 1792, 3968, 8064, 16383, 32767, 0]
theorem spec_l02Reach.tab5 : rtab .any (opsOf Try.f135 5) = spec_l02Reach.T5 := by kernel_rfl
theorem spec_l02Reach.bits5 : waitsOk spec_l02Reach.T5.2 spec_l02Reach.B5 = true := by kernel_rfl
set_option maxHeartbeats 8000000 in
set_option maxRecDepth 100000 in
theorem spec_l02Reach.calls (k : Nat) (A0 : Option Addr) (c0 : Nat) (l0 : List Int) (A1 : Option Addr) (c1 : Nat) (l1 : List Int) (a2 : Int) (r : List Int) (w : World) (hr0 : Kd.C (Kd.int .i64) w A0 l0.length l0) (hc0 : l0.length ≤ c0) (hr1 : Kd.C (Kd.int .i64) w A1 l1.length l1) (hc1 : l1.length ≤ c1) (h : spec_l02Reach.f k l0 l1 a2 = some r) :
    Calls Try.prog 135 #[.slice A0 l0.length c0, .slice A1 l1.length c1, .int .i64 a2] w fun e w' => ∃ v0_ : Value, e = .returned (v0_) ∧ Kd.R (Kd.int .i64) 3 w' w.heap.size (fun _ => True) v0_ r ∧ Below w.heap.size w w' := by
  have HR0 := Aside0.mk hr0
  have HC0 := Aside0.mk hc0
  clear hr0 hc0
  have HR1 := Aside0.mk hr1
  have HC1 := Aside0.mk hc1
  clear hr1 hc1
  have HB := Aside0.mk (Below.refl w.heap.size w)
  have H := h
  unfold spec_l02Reach.f at H
  clear h
  obtain ⟨y105, hy105⟩ : ∃ y_ : List Int, y_ = (([a2] : List Int)) := ⟨_, rfl⟩
  replace H : (spec_l02Reach.l0 k l0 l1 y105 0) = some r := by first | (rw [hy105]; exact H) | exact H
  have Ny105 := Aside0.mk hy105
  clear hy105
  have H' := Aside0.mk H
  clear H
  go_enter Try.func135, Try.ntmps135
  go_wp2_with (first | ((with_reducible refine gate_dst (N := 12) rfl ?_); refine Kd.R_lit (Kd.int .i64) _ 3 ?hg (N := 12) ?hd (xs := ([a2] : List Int)) (inner := [.int .i64 a2]) (ok := fun _ => True) (okp := fun _ => True) ?hr ?hp (fun _ hk => hk) trivial (Below.refl _ _) (Nat.le_refl _) (by simp) ?_; (case hd => rfl); (case hg => rfl); (case hr => first | (go_simp; done) | (go_simp; rfl)); (case hp => exact (Reps.one (show Kd.M (Kd.int .i64) _ _ _ a2 [.int .i64 a2] from rfl) (Reps.none _ _))); intro v106 w4 ho5 hb hg_ hnew_; clear hg_ hnew_; (first | rw [← Ny105.out] at ho5 | (simp only [Int.reduceToNat] at ho5; rw [← Ny105.out] at ho5)); have HO107 := rl_ w ho5; replace HB := b1_ hb; clear hb ho5))
  go_loopg [7, 8] k (fun kq v7 v8 w' => ∃ (x7_1 : List Int) (x8_1 : Int), v8 = .int .i64 x8_1 ∧ Aside0 (spec_l02Reach.l0 kq l0 l1 x7_1 x8_1 = some r) ∧ Aside0 (kq ≤ k) ∧ Aside0 (Kd.R (Kd.int .i64) 3 w' w.heap.size (fun _ => True) v7 x7_1) ∧ Aside0 (Below w.heap.size w w'))
  case atStart => exact ⟨(y105), (0), qc_, H', ⟨Nat.le_refl _⟩, ⟨(rr_ HO107)⟩, ⟨hB_⟩⟩
  case round =>
    clear H'
    obtain ⟨x7_1, x8_1, rfl, HA, HK1, HO_7, HB⟩ := hrel
    cases gk with
    | zero => exact absurd HA.out (by simp [spec_l02Reach.l0])
    | succ k1 =>
      have H := HA.out
      clear HA
      simp only [spec_l02Reach.l0] at H
      by_cases c6 : x8_1 < (x7_1.length : Int)
      · rw [if_pos c6] at H
        have c6b0 := decide_eq_true c6
        clear c6
        have c7 := cp_ H
        replace H := ca_ H
        have c7b0 := decide_eq_true c7
        clear c7
        have c8 := cp_ H
        replace H := ca_ H
        have c8b0 := decide_eq_true c8
        clear c8
        have c9 := cp_ H
        replace H := ca_ H
        have c9b0 := decide_eq_true c9
        clear c9
        have c10 := cp_ H
        replace H := ca_ H
        have c10b0 := decide_eq_true c10
        clear c10
        obtain ⟨y112, hy112⟩ : ∃ y_ : List Int, y_ = (([rd l0 (rd x7_1 x8_1), rd l1 (rd x7_1 x8_1)] : List Int)) := ⟨_, rfl⟩
        replace H : (spec_l02Reach.l1 k1 l0 l1 x7_1 x8_1 y112 (y112.length : Int) 0) = some r := by first | (rw [hy112]; exact H) | exact H
        have Ny112 := Aside0.mk hy112
        clear hy112
        have H' := Aside0.mk H
        clear H
        obtain ⟨Ao11, co11, eo11⟩ := Kd.R_slice HO_7.out
        subst eo11
        try go_wp2
        replace HO_7 := Aside0.mk (Kd.R_drew HO_7.out)
        replace HB := Aside0.mk (below_drew1 HB.out)
        have p108 : 0 ≤ (x8_1 : Int) := of_decide_eq_true qe_
        have q108 : x8_1 < (x7_1.length : Int) := of_decide_eq_true qe_
        obtain ⟨ad108, e108, hx108_0⟩ := Kd.at_int (Kd.R_reads' HO_7.out).2.2 x8_1 p108 q108
        cases e108
        replace p108 := eq_true p108
        replace q108 := eq_true q108
        have p109 : 0 ≤ ((rd x7_1 x8_1) : Int) := of_decide_eq_true qe_
        have q109 : (rd x7_1 x8_1) < (l0.length : Int) := of_decide_eq_true qe_
        obtain ⟨ad109, e109, hx109_0⟩ := Kd.at_int HR0.out (rd x7_1 x8_1) p109 q109
        have hw109_0 := hx109_0
        cases e109
        replace hx109_0 := (HB.out.cell (World.block_lt_of_cell? w _ hx109_0)).trans hx109_0
        replace p109 := eq_true p109
        replace q109 := eq_true q109
        have p110 : 0 ≤ (x8_1 : Int) := of_decide_eq_true qe_
        have q110 : x8_1 < (x7_1.length : Int) := of_decide_eq_true qe_
        obtain ⟨ad110, e110, hx110_0⟩ := Kd.at_int (Kd.R_reads' HO_7.out).2.2 x8_1 p110 q110
        obtain rfl : ad108 = ad110 := (by injection e110)
        replace p110 := eq_true p110
        replace q110 := eq_true q110
        have p111 : 0 ≤ ((rd x7_1 x8_1) : Int) := of_decide_eq_true qe_
        have q111 : (rd x7_1 x8_1) < (l1.length : Int) := of_decide_eq_true qe_
        obtain ⟨ad111, e111, hx111_0⟩ := Kd.at_int HR1.out (rd x7_1 x8_1) p111 q111
        have hw111_0 := hx111_0
        cases e111
        replace hx111_0 := (HB.out.cell (World.block_lt_of_cell? w _ hx111_0)).trans hx111_0
        replace p111 := eq_true p111
        replace q111 := eq_true q111
        refine start_ (n := 17) (S := fun w' => w'.cell? (ad108.add (x8_1).toNat) = some (.int .i64 (rd x7_1 x8_1)) ∧ w'.cell? (ad109.add ((rd x7_1 x8_1)).toNat) = some (.int .i64 (rd l0 (rd x7_1 x8_1))) ∧ w'.cell? (ad108.add (x8_1).toNat) = some (.int .i64 (rd x7_1 x8_1)) ∧ w'.cell? (ad111.add ((rd x7_1 x8_1)).toNat) = some (.int .i64 (rd l1 (rd x7_1 x8_1)))) (ds := []) (bl_ 17 0) (by kernel_rfl) rfl (by kernel_rfl) ⟨hx108_0, ((HB.out.cell (World.block_lt_of_cell? w _ hw109_0)).trans hw109_0), hx110_0, ((HB.out.cell (World.block_lt_of_cell? w _ hw111_0)).trans hw111_0)⟩ (fun hHeld => ?_); refine with_tabW spec_l02Reach.tab5 spec_l02Reach.bits5 (fun HT_ HW_ => ?_)
        generalize wr.drew = w12 at HO_7 HB hx108_0 hx109_0 hx110_0 hx111_0 hHeld ⊢
        refine pu_ 0 (some 19) (bl_ 17 1) HT_ ?_
        refine pu_ 1 (some 20) (bl_ 17 3) HT_ ?_
        refine pu_ 2 (some 21) (bl_ 17 7) HT_ ?_
        refine pu_ 3 (some 22) (bl_ 17 15) HT_ ?_
        refine pu_ 7 (some 26) (bl_ 17 143) HT_ ?_
        refine pu_ 8 (some 27) (bl_ 17 399) HT_ ?_
        refine pu_ 9 (some 28) (bl_ 17 911) HT_ ?_
        refine pu_ 10 (some 29) (bl_ 17 1935) HT_ ?_
        refine pu_ 16 (some 35) (bl_ 17 67471) HT_ ?_
        refine ta_ 4 (some 23) (bl_ 17 67487) HT_ HW_ hHeld ?_
        refine pu_ 5 (some 24) (bl_ 17 67519) HT_ ?_
        refine ta_ 6 (some 25) (bl_ 17 67583) HT_ HW_ hHeld ?_
        refine ta_ 11 (some 30) (bl_ 17 69631) HT_ HW_ hHeld ?_
        refine pu_ 12 (some 31) (bl_ 17 73727) HT_ ?_
        refine ta_ 13 (some 32) (bl_ 17 81919) HT_ HW_ hHeld ?_
        refine on_ 14 (some 33) (bl_ 17 98303) HT_ (fun K hK => ?_)
        refine Kd.R_lit_step (Kd.int .i64) _ 3 ?hg (N := 33) ?hd (xs := ([rd l0 (rd x7_1 x8_1), rd l1 (rd x7_1 x8_1)] : List Int)) (inner := [.int .i64 (rd l0 (rd x7_1 x8_1)), .int .i64 (rd l1 (rd x7_1 x8_1))]) (ok := fun _ => True) (okp := fun _ => True) ?hr ?hp (fun _ hk => hk) trivial (Below.refl _ _) (Nat.le_refl _) (by simp) ?_; (case hd => rfl); (case hg => rfl); (case hr => first | (go_simp; done) | (go_simp; rfl)); (case hp => exact (Reps.one (show Kd.M (Kd.int .i64) _ _ _ (rd l0 (rd x7_1 x8_1)) [.int .i64 (rd l0 (rd x7_1 x8_1))] from rfl) (Reps.one (show Kd.M (Kd.int .i64) _ _ _ (rd l1 (rd x7_1 x8_1)) [.int .i64 (rd l1 (rd x7_1 x8_1))] from rfl) (Reps.none _ _))))
        intro v113 w13 ho14 hb hg_ hnew_
        have HS0_ := (hb.cell (World.block_lt_of_cell? _ _ (hHeld.1))).trans (hHeld.1)
        have HS2_ := (hb.cell (World.block_lt_of_cell? _ _ (hHeld.2.2.1))).trans (hHeld.2.2.1)
        clear hg_ hnew_
        (first | rw [← Ny112.out] at ho14 | (simp only [Int.reduceToNat] at ho14; rw [← Ny112.out] at ho14))
        have HO114 := Aside0.mk (Kd.R_lower (Kd.R_new' ho14 (Kd.R_lt (rr_ HO_7))) (below_size hB_))
        replace HO_7 := Aside0.mk (Kd.R_elder' (rr_ HO_7) (Kd.R_base ho14) hb)
        replace HB := b1_ hb
        clear hb ho14
        obtain ⟨Ao15, co15, eo15⟩ := Kd.R_slice HO114.out
        (first | subst eo15 | (injection eo15 with f1_ f2_ f3_; have f4_ := f1_.symm; have f5_ := f3_.symm; clear f1_ f2_ f3_; subst f4_; subst f5_))
        refine hK.out _ _ ⟨HS0_, ((HB.out.cell (World.block_lt_of_cell? w _ hw109_0)).trans hw109_0), HS2_, ((HB.out.cell (World.block_lt_of_cell? w _ hw111_0)).trans hw111_0)⟩ (fun hHeld => ?_)
        clear hK K
        refine no_ (some 33) ?_
        refine pu_ 15 (some 34) (bl_ 17 131071) HT_ ?_
        refine done_ (done_of HT_.out (by kernel_rfl)) ?_
        try go_wp2
        go_loopg [7, 35] k1 (fun kq v7 v35 w' => ∃ (x7_2 : List Int) (x35_2 : Int), v35 = .int .i64 x35_2 ∧ Aside0 (spec_l02Reach.l1 kq l0 l1 x7_2 x8_1 y112 (y112.length : Int) x35_2 = some r) ∧ Aside0 (kq ≤ k1) ∧ Aside0 (Kd.R (Kd.int .i64) 3 w' w.heap.size (fun k_ => some k_ ≠ ((.slice Ao15 y112.length co15) : Value).ownBlock) v7 x7_2) ∧ Aside0 (Kd.R (Kd.int .i64) 3 w' w.heap.size (fun k_ => some k_ ≠ (v7 : Value).ownBlock) (.slice Ao15 y112.length co15) y112) ∧ Aside0 (Below w.heap.size w w'))
        case atStart => exact ⟨(x7_1), (0), qc_, H', ⟨Nat.le_refl _⟩, ⟨(rw_ (Kd.R_mono HO_7.out (fun _ hk => hk.2)))⟩, ⟨(rw_ (Kd.R_mono HO114.out (fun _ hk => hk.2)))⟩, ⟨hB_⟩⟩
        case round =>
          clear H'
          obtain ⟨x7_2, x35_2, rfl, HA, HK2, HO_7, HO_33, HB⟩ := hrel
          cases gk with
          | zero => exact absurd HA.out (by simp [spec_l02Reach.l1])
          | succ k2 =>
            have H := HA.out
            clear HA
            simp only [spec_l02Reach.l1] at H
            by_cases c16 : x35_2 < (y112.length : Int)
            · rw [if_pos c16] at H
              have c16b0 := decide_eq_true c16
              clear c16
              have c17 := cp_ H
              replace H := ca_ H
              have c17b0 := decide_eq_true c17
              clear c17
              have c18 := cp_ H
              replace H := ca_ H
              have c18b0 := decide_eq_true c18
              clear c18
              obtain ⟨t116, A19, H⟩ := bi_ H
              by_cases c20 : t116 = true
              · subst c20
                rw [if_pos rfl] at H
                have H' := Aside0.mk H
                clear H
                have p115 : 0 ≤ (x35_2 : Int) := of_decide_eq_true qe_
                have q115 : x35_2 < (y112.length : Int) := of_decide_eq_true qe_
                obtain ⟨ad115, e115, hx115_0⟩ := Kd.at_int (Kd.R_reads' HO_33.out).2.2 x35_2 p115 q115
                cases e115
                replace p115 := eq_true p115
                replace q115 := eq_true q115
                obtain ⟨Ao21, co21, eo21⟩ := Kd.R_slice HO_7.out
                subst eo21
                go_wp2_with (first | ((with_reducible refine gate_callee (f := 155) rfl ?_); refine gL_ (some 41) Try.func155 #[.slice Ao21 x7_2.length co21, .int .i64 (rd y112 x35_2)] rfl qa_ ?_; (with_reducible refine (spec_l02Has.calls k2 _ _ x7_2 (rd y112 x35_2) true _ (cr_ HO_7) ((Kd.R_reads' HO_7.out).2.1) A19.out).mono ?_); rintro e w' ⟨rfl, ⟨nd, rfl⟩⟩; refine ⟨_, rfl, ?_⟩))
                go_roundg k2
                case measure => have := HK1.out; have := HK2.out; omega
                case rel => exact ⟨(x7_2), (wrap64 (x35_2 + 1)), qc_, H', ⟨by have := HK1.out; have := HK2.out; omega⟩, ⟨(rr_ HO_7)⟩, ⟨(rr_ HO_33)⟩, ⟨hB_⟩⟩
              · replace c20 := Bool.eq_false_iff.mpr c20
                subst c20
                have H1 : (if x7_2.length < 17592186044416 then (spec_l02Reach.l1 k2 l0 l1 (x7_2 ++ [rd y112 x35_2]) x8_1 y112 (y112.length : Int) (wrap64 (x35_2 + 1))) else (none)) = some r := by rw [if_neg (show ¬ (false = true) by decide)] at H; exact H
                clear H
                have H := H1
                clear H1
                have c22 := cp_ H
                replace H := ca_ H
                have LMc22 := Aside0.mk c22
                clear c22
                obtain ⟨y117, hy117⟩ : ∃ y_ : List Int, y_ = (x7_2 ++ [rd y112 x35_2]) := ⟨_, rfl⟩
                replace H : (spec_l02Reach.l1 k2 l0 l1 y117 x8_1 y112 (y112.length : Int) (wrap64 (x35_2 + 1))) = some r := by first | (rw [hy117]; exact H) | exact H
                have Ny117 := Aside0.mk hy117
                clear hy117
                have H' := Aside0.mk H
                clear H
                have p115 : 0 ≤ (x35_2 : Int) := of_decide_eq_true qe_
                have q115 : x35_2 < (y112.length : Int) := of_decide_eq_true qe_
                obtain ⟨ad115, e115, hx115_0⟩ := Kd.at_int (Kd.R_reads' HO_33.out).2.2 x35_2 p115 q115
                cases e115
                replace p115 := eq_true p115
                replace q115 := eq_true q115
                obtain ⟨Ao23, co23, eo23⟩ := Kd.R_slice HO_7.out
                subst eo23
                go_wp2_with (first | ((with_reducible refine gate_callee (f := 155) rfl ?_); refine gL_ (some 41) Try.func155 #[.slice Ao23 x7_2.length co23, .int .i64 (rd y112 x35_2)] rfl qa_ ?_; (with_reducible refine (spec_l02Has.calls k2 _ _ x7_2 (rd y112 x35_2) false _ (cr_ HO_7) ((Kd.R_reads' HO_7.out).2.1) A19.out).mono ?_); rintro e w' ⟨rfl, ⟨nd, rfl⟩⟩; refine ⟨_, rfl, ?_⟩) | ((with_reducible refine gate_builtin (b := .append) (xs := #[.tmp 43, .tmp 45]) rfl ?_); at_builtin; refine Kd.R_append (Kd.int .i64) (w0 := w) w.heap.size rfl (.tmp 43) (.tmp 45) 22 3 (.int .i64 0) 8 rfl Try.underlying22 info3 rfl (by decide) (by omega) (.slice Ao23 x7_2.length co23) x7_2 (rd y112 x35_2) [.int .i64 (rd y112 x35_2)] (fun k_ => some k_ ≠ (.slice (some ad115) y112.length co15 : Value).ownBlock) (fun _ => False) rfl rfl ?aP (fun _ hk => hk.elim) ?aF ?aO ?aB ?aS ?aL ?_; (case aP => exact rfl); (case aB => exact hB_); (case aF => exact (fun k_ hk => Kd.fresh' (Kd.R_lt (rr_ HO_33)) k_ hk)); (case aO => exact (rr_ HO_7)); (case aS => exact (below_size hB_)); (case aL => have := LMc22.out; omega); intro v118 w24 ho hb hg hat; rw [← Ny117.out] at ho; replace HO_33 := Aside0.mk (Kd.R_after (ok := (fun _ => True)) (rw_ (Kd.R_mono HO_33.out (fun _ hk => ⟨trivial, hk⟩))) hg hat); replace HB := Aside0.mk hb; have HO119 := Aside0.mk ho; clear HO_7; clear ho hb hg hat))
                go_roundg k2
                case measure => have := HK1.out; have := HK2.out; omega
                case rel => exact ⟨(y117), (wrap64 (x35_2 + 1)), qc_, H', ⟨by have := HK1.out; have := HK2.out; omega⟩, ⟨(rr_ HO119)⟩, ⟨(rw_ (Kd.R_mono HO_33.out (fun _ hk => hk.2)))⟩, ⟨hB_⟩⟩
            · rw [if_neg c16] at H
              have c16b0 := decide_eq_false c16
              clear c16
              have H' := Aside0.mk H
              clear H
              go_wp2
              go_roundg k2
              case measure => have := HK1.out; have := HK2.out; omega
              case rel => exact ⟨(x7_2), (wrap64 (x8_1 + 1)), qc_, H', ⟨by have := HK1.out; have := HK2.out; omega⟩, ⟨(rw_ (Kd.R_mono HO_7.out (fun _ hk => trivial)))⟩, ⟨hB_⟩⟩
      · rw [if_neg c6] at H
        have c6b0 := decide_eq_false c6
        clear c6
        obtain rfl := Option.some.inj H
        obtain ⟨Ao25, co25, eo25⟩ := Kd.R_slice HO_7.out
        subst eo25
        go_wp2
        go_ret
        exact ⟨_, qb_, (rr_ HO_7), hB_⟩
end Go.Proofs.Ytbdnellgioimbaa.A
end
section
namespace Go.Proofs.Ytbdnellgioimbaa.A
open Go.RowKit Go.Proofs.YtbdnellgioimbaaW.PrintWords Go.Proofs.YtbdnellgioimbaaW.PrintLast Go.Proofs.YtbdnellgioimbaaW.PrintMore
attribute [local go_sem] max2_int min2_int max_two min_two max_three min_three max_four min_four
set_option linter.unusedVariables false
set_option linter.unusedSimpArgs false
def spec_l01In.f (a0 : Int) (a1 : Int) (a2 : Int) : Option (Bool) := if a0 ≥ a1 then (some (decide (a0 ≤ a2))) else (some false)
set_option maxHeartbeats 8000000 in
set_option maxRecDepth 100000 in
theorem spec_l01In.calls (a0 : Int) (a1 : Int) (a2 : Int) (r : Bool) (w : World) (h : spec_l01In.f a0 a1 a2 = some r) :
    Calls Try.prog 115 #[.int .i64 a0, .int .i64 a1, .int .i64 a2] w fun e w' => e = .returned (.bool r) ∧ Drawn0 w w' := by
  have H := h
  unfold spec_l01In.f at H
  clear h
  by_cases c4 : a0 ≥ a1
  · rw [if_pos c4] at H
    have c4b0 : decide (a1 ≤ a0) = true := decide_eq_true c4
    clear c4
    obtain rfl := Option.some.inj H
    go_enter Try.func115, Try.ntmps115
    go_wp2
    go_ret
    exact ⟨qc_, by repeat (first | exact Drawn0.refl _ | apply Drawn0.step)⟩
  · rw [if_neg c4] at H
    have c4b0 : decide (a1 ≤ a0) = false := decide_eq_false c4
    clear c4
    obtain rfl := Option.some.inj H
    go_enter Try.func115, Try.ntmps115
    go_wp2
    go_ret
    exact ⟨qc_, by repeat (first | exact Drawn0.refl _ | apply Drawn0.step)⟩
end Go.Proofs.Ytbdnellgioimbaa.A
end
section
namespace Go.Proofs.Ytbdnellgioimbaa.A
open Go.RowKit Go.Proofs.YtbdnellgioimbaaW.PrintWords Go.Proofs.YtbdnellgioimbaaW.PrintLast Go.Proofs.YtbdnellgioimbaaW.PrintMore
attribute [local go_sem] max2_int min2_int max_two min_two max_three min_three max_four min_four
set_option linter.unusedVariables false
set_option linter.unusedSimpArgs false
def spec_PermOk.l0 : Nat → List Int → List Int → Int → Int → Option (Bool)
  | 0, _, _, _, _ => none
  | k + 1, x0, x8, x9, x10 => if x10 < x9 then (if 0 ≤ x10 then (if x10 < (x8.length : Int) then ((spec_l01In.f (rd x8 x10) 0 (wrap64 ((x0.length : Int) - 1))).bind fun t121 => (if t121 = true then (if x10 ≤ (x0.length : Int) then ((spec_l02Has.f k (x0.take (x10 : Int).toNat) (rd x8 x10)).bind fun t123 => (if t123 = true then (some false) else (spec_PermOk.l0 k x0 x8 x9 (wrap64 (x10 + 1))))) else (none)) else (some false))) else (none)) else (none)) else (some true)
def spec_PermOk.f (k : Nat) (l0 : List Int) : Option (Bool) := if (l0.length : Int) > 24 then (some false) else (spec_PermOk.l0 k l0 l0 (l0.length : Int) 0)
theorem spec_PermOk.mono_l : ∀ k, (∀ y0 y1 y2 y3, LeO (spec_PermOk.l0 k y0 y1 y2 y3) (spec_PermOk.l0 (k + 1) y0 y1 y2 y3))
  | 0 => fun _ _ _ _ r h => by simp [spec_PermOk.l0] at h
  | k + 1 => by
    have ih0 := spec_PermOk.mono_l k
    · intro y0 y1 y2 y3
      unfold spec_PermOk.l0
      repeat' first
      | (with_reducible exact ih0 _ _ _ _)
      | (with_reducible exact spec_l02Has.mono _ _ _)
      | (with_reducible exact LeO.refl _)
      | (with_reducible exact LeO.none _)
      | (with_reducible refine LeO.ite ?_ ?_)
      | (with_reducible refine LeO.bind ?_ (fun _ => ?_))
      | exact ih0 _ _ _ _
      | exact spec_l02Has.mono _ _ _
      | exact LeO.none _
      | refine LeO.ite ?_ ?_
      | refine LeO.bind ?_ (fun _ => ?_)
theorem spec_PermOk.mono : ∀ a0 k, LeO (spec_PermOk.f k a0) (spec_PermOk.f (k + 1) a0) := by
  intro a0 k
  have ih0 := spec_PermOk.mono_l k
  unfold spec_PermOk.f
  repeat' first
      | (with_reducible exact ih0 _ _ _ _)
      | (with_reducible exact spec_l02Has.mono _ _ _)
      | (with_reducible exact LeO.refl _)
      | (with_reducible exact LeO.none _)
      | (with_reducible refine LeO.ite ?_ ?_)
      | (with_reducible refine LeO.bind ?_ (fun _ => ?_))
      | exact ih0 _ _ _ _
      | exact spec_l02Has.mono _ _ _
      | exact LeO.none _
      | refine LeO.ite ?_ ?_
      | refine LeO.bind ?_ (fun _ => ?_)
set_option maxHeartbeats 8000000 in
set_option maxRecDepth 100000 in
theorem spec_PermOk.calls (k : Nat) (A0 : Option Addr) (c0 : Nat) (l0 : List Int) (r : Bool) (w : World) (hr0 : Kd.C (Kd.int .i64) w A0 l0.length l0) (hc0 : l0.length ≤ c0) (h : spec_PermOk.f k l0 = some r) :
    Calls Try.prog 136 #[.slice A0 l0.length c0] w fun e w' => e = .returned (.bool r) ∧ Drawn0 w w' := by
  have HR0 := Aside0.mk hr0
  have HC0 := Aside0.mk hc0
  clear hr0 hc0
  have H : (if (l0.length : Int) > 24 then (some false) else (spec_PermOk.l0 k l0 l0 (l0.length : Int) 0)) = some r := h
  clear h
  by_cases c2 : (l0.length : Int) > 24
  · rw [if_pos c2] at H
    have c2b0 : decide (24 < (l0.length : Int)) = true := decide_eq_true c2
    have c2b1 : decide (24 < l0.length) = true := decide_eq_true (by omega)
    clear c2
    obtain rfl := Option.some.inj H
    go_enter Try.func136, Try.ntmps136
    go_wp2
    go_ret
    exact ⟨by first | rfl | (simp; done) | (simp [*]; done), by repeat (first | exact Drawn0.refl _ | apply Drawn0.step)⟩
  · rw [if_neg c2] at H
    have c2b0 : decide (24 < (l0.length : Int)) = false := decide_eq_false c2
    have c2b1 : decide (24 < l0.length) = false := decide_eq_false (by omega)
    clear c2
    have H' := Aside0.mk H
    clear H
    go_enter Try.func136, Try.ntmps136
    go_wp2
    go_loopg [10] k (fun kq v10 w' => ∃ (x10_1 : Int), v10 = .int .i64 x10_1 ∧ Aside0 (spec_PermOk.l0 kq l0 l0 (l0.length : Int) x10_1 = some r) ∧ Aside0 (kq ≤ k) ∧ Drawn0 w w')
    case atStart => exact ⟨(0), (by first | rfl | (simp; done) | (simp [*]; done)), H', ⟨Nat.le_refl _⟩, by repeat (first | exact Drawn0.refl _ | apply Drawn0.step)⟩
    case round =>
      clear H'
      try clear c1
      try clear c2
      try clear c2b0
      try clear c2b1
      try clear p2
      obtain ⟨x10_1, rfl, HA, HK1, ⟨m1, rfl⟩⟩ := hrel
      cases gk with
      | zero => exact absurd HA.out (by simp [spec_PermOk.l0])
      | succ k1 =>
        have H := HA.out
        clear HA
        simp only [spec_PermOk.l0] at H
        by_cases c3 : x10_1 < (l0.length : Int)
        · rw [if_pos c3] at H
          have c3b0 : decide (x10_1 < (l0.length : Int)) = true := decide_eq_true c3
          clear c3
          by_cases c4 : 0 ≤ x10_1
          · rw [if_pos c4] at H
            have c4b0 : decide (0 ≤ x10_1) = true := decide_eq_true c4
            clear c4
            by_cases c5 : x10_1 < (l0.length : Int)
            · rw [if_pos c5] at H
              have c5b0 : decide (x10_1 < (l0.length : Int)) = true := decide_eq_true c5
              clear c5
              replace H := Option.bind_eq_some_iff.mp H
              obtain ⟨t121, A60, H⟩ := H
              replace H : (if t121 = true then (if x10_1 ≤ (l0.length : Int) then ((spec_l02Has.f k1 (l0.take (x10_1 : Int).toNat) (rd l0 x10_1)).bind fun t123 => (if t123 = true then (some false) else (spec_PermOk.l0 k1 l0 l0 (l0.length : Int) (wrap64 (x10_1 + 1))))) else (none)) else (some false)) = some r := H
              have A6 := Aside0.mk A60
              clear A60
              by_cases c7 : t121 = true
              · subst c7
                have H1 : (if x10_1 ≤ (l0.length : Int) then ((spec_l02Has.f k1 (l0.take (x10_1 : Int).toNat) (rd l0 x10_1)).bind fun t123 => (if t123 = true then (some false) else (spec_PermOk.l0 k1 l0 l0 (l0.length : Int) (wrap64 (x10_1 + 1))))) else (none)) = some r := by rw [if_pos rfl] at H; exact H
                clear H
                have H := H1
                clear H1
                have c8b0 := eq_true (of_decide_eq_true (by first | (with_reducible assumption) | assumption) : 0 ≤ x10_1)
                by_cases c9 : x10_1 ≤ (l0.length : Int)
                · rw [if_pos c9] at H
                  have c9b0 := eq_true c9
                  have c9b1 : decide (x10_1 ≤ (l0.length : Int)) = true := decide_eq_true c9
                  clear c9
                  replace H := Option.bind_eq_some_iff.mp H
                  obtain ⟨t123, A100, H⟩ := H
                  replace H : (if t123 = true then (some false) else (spec_PermOk.l0 k1 l0 l0 (l0.length : Int) (wrap64 (x10_1 + 1)))) = some r := H
                  have A10 := Aside0.mk A100
                  clear A100
                  by_cases c11 : t123 = true
                  · subst c11
                    have H1 : (some false) = some r := by rw [if_pos rfl] at H; exact H
                    clear H
                    have H := H1
                    clear H1
                    obtain rfl := Option.some.inj H
                    have p120 : 0 ≤ (x10_1 : Int) := of_decide_eq_true (by first | (with_reducible assumption) | assumption)
                    have q120 : x10_1 < (l0.length : Int) := of_decide_eq_true (by first | (with_reducible assumption) | assumption)
                    obtain ⟨ad120, e120, hx120_0⟩ := Kd.at_int HR0.out x10_1 p120 q120
                    cases e120
                    replace p120 := eq_true p120
                    replace q120 := eq_true q120
                    have HL_ := Aside0.mk (show (x10_1 : Int).toNat = (l0.take (x10_1 : Int).toNat).length by rw [List.length_take]; have := of_eq_true q120; omega)
                    go_wp2_with (first | ((with_reducible refine gate_callee (f := 115) rfl ?_); refine goesL_ (some 19) rfl rfl Try.func115 (by kernel_rfl) rfl #[.int .i64 (rd l0 x10_1), .int .i64 0, .int .i64 (wrap64 ((l0.length : Int) - 1))] rfl (by (try simp only [List.map_toArray, List.map_cons, List.map_nil]); first | done | rfl | (simp only [List.length_drop, List.length_take]; rfl)) ?_; (with_reducible refine (spec_l01In.calls (rd l0 x10_1) 0 (wrap64 ((l0.length : Int) - 1)) true _ A6.out).mono ?_); rintro e w' ⟨rfl, ⟨nd, rfl⟩⟩; refine ⟨_, rfl, ?_⟩; obtain ⟨i012, hi012, _, hsz12, _⟩ := info_parts info3; obtain ⟨hcut12, hA12, hC12⟩ := print_take_of (P := Try.prog) (Value.int .i64) 0 22 3 .i64 Try.underlying22 hi012 hsz12 (some ad120) c0 l0 x10_1 (of_decide_eq_true (by first | (with_reducible assumption) | assumption)) (of_decide_eq_true (by first | (with_reducible assumption) | assumption)) HC0.out; have HR122 := Aside0.mk (Kd.C_of_reads (h1 := fun _ => rfl) (hA12 _ (Kd.reads_of_C HR0.out))); have HC122 := Aside0.mk hC12; clear hA12 hC12 hi012 hsz12) | (go_at_call 155; refine calls_of_args (congrArg (fun n_ => #[Value.slice _ n_ _, _]) HL_.out) ?_; (with_reducible refine (spec_l02Has.calls k1 _ _ (l0.take (x10_1 : Int).toNat) (rd l0 x10_1) true _ ?side1 ?side2 A10.out).mono ?_); (case side1 => repeat (first | exact HR122.out | (with_reducible refine Kd.C_alloc ?_ _) | (with_reducible refine Kd.C_drewN ?_ _) | (with_reducible refine Kd.C_drew ?_))); (case side2 => exact HC122.out); rintro e w' ⟨rfl, ⟨nd, rfl⟩⟩))
                    go_ret
                    exact ⟨by first | rfl | (simp; done) | (simp [*]; done), by repeat (first | exact Drawn0.refl _ | apply Drawn0.step)⟩
                  · replace c11 := Bool.eq_false_iff.mpr c11
                    subst c11
                    have H1 : (spec_PermOk.l0 k1 l0 l0 (l0.length : Int) (wrap64 (x10_1 + 1))) = some r := by rw [if_neg (show ¬ (false = true) by decide)] at H; exact H
                    clear H
                    have H := H1
                    clear H1
                    have H' := Aside0.mk H
                    clear H
                    have p120 : 0 ≤ (x10_1 : Int) := of_decide_eq_true (by first | (with_reducible assumption) | assumption)
                    have q120 : x10_1 < (l0.length : Int) := of_decide_eq_true (by first | (with_reducible assumption) | assumption)
                    obtain ⟨ad120, e120, hx120_0⟩ := Kd.at_int HR0.out x10_1 p120 q120
                    cases e120
                    replace p120 := eq_true p120
                    replace q120 := eq_true q120
                    have HL_ := Aside0.mk (show (x10_1 : Int).toNat = (l0.take (x10_1 : Int).toNat).length by rw [List.length_take]; have := of_eq_true q120; omega)
                    go_wp2_with (first | ((with_reducible refine gate_callee (f := 115) rfl ?_); refine goesL_ (some 19) rfl rfl Try.func115 (by kernel_rfl) rfl #[.int .i64 (rd l0 x10_1), .int .i64 0, .int .i64 (wrap64 ((l0.length : Int) - 1))] rfl (by (try simp only [List.map_toArray, List.map_cons, List.map_nil]); first | done | rfl | (simp only [List.length_drop, List.length_take]; rfl)) ?_; (with_reducible refine (spec_l01In.calls (rd l0 x10_1) 0 (wrap64 ((l0.length : Int) - 1)) true _ A6.out).mono ?_); rintro e w' ⟨rfl, ⟨nd, rfl⟩⟩; refine ⟨_, rfl, ?_⟩; obtain ⟨i013, hi013, _, hsz13, _⟩ := info_parts info3; obtain ⟨hcut13, hA13, hC13⟩ := print_take_of (P := Try.prog) (Value.int .i64) 0 22 3 .i64 Try.underlying22 hi013 hsz13 (some ad120) c0 l0 x10_1 (of_decide_eq_true (by first | (with_reducible assumption) | assumption)) (of_decide_eq_true (by first | (with_reducible assumption) | assumption)) HC0.out; have HR122 := Aside0.mk (Kd.C_of_reads (h1 := fun _ => rfl) (hA13 _ (Kd.reads_of_C HR0.out))); have HC122 := Aside0.mk hC13; clear hA13 hC13 hi013 hsz13) | (go_at_call 155; refine calls_of_args (congrArg (fun n_ => #[Value.slice _ n_ _, _]) HL_.out) ?_; (with_reducible refine (spec_l02Has.calls k1 _ _ (l0.take (x10_1 : Int).toNat) (rd l0 x10_1) false _ ?side1 ?side2 A10.out).mono ?_); (case side1 => repeat (first | exact HR122.out | (with_reducible refine Kd.C_alloc ?_ _) | (with_reducible refine Kd.C_drewN ?_ _) | (with_reducible refine Kd.C_drew ?_))); (case side2 => exact HC122.out); rintro e w' ⟨rfl, ⟨nd, rfl⟩⟩))
                    go_roundg k1
                    case measure => have := HK1.out; omega
                    case rel => exact ⟨(wrap64 (x10_1 + 1)), (by first | rfl | (simp; done) | (simp [*]; done)), H', ⟨by have := HK1.out; omega⟩, by repeat (first | exact Drawn0.refl _ | apply Drawn0.step)⟩
                · rw [if_neg c9] at H
                  exact absurd H (by simp)
              · replace c7 := Bool.eq_false_iff.mpr c7
                subst c7
                have H1 : (some false) = some r := by rw [if_neg (show ¬ (false = true) by decide)] at H; exact H
                clear H
                have H := H1
                clear H1
                obtain rfl := Option.some.inj H
                have p120 : 0 ≤ (x10_1 : Int) := of_decide_eq_true (by first | (with_reducible assumption) | assumption)
                have q120 : x10_1 < (l0.length : Int) := of_decide_eq_true (by first | (with_reducible assumption) | assumption)
                obtain ⟨ad120, e120, hx120_0⟩ := Kd.at_int HR0.out x10_1 p120 q120
                cases e120
                replace p120 := eq_true p120
                replace q120 := eq_true q120
                have HL_ := Aside0.mk (show (x10_1 : Int).toNat = (l0.take (x10_1 : Int).toNat).length by rw [List.length_take]; have := of_eq_true q120; omega)
                go_wp2_with (first | ((with_reducible refine gate_callee (f := 115) rfl ?_); refine goesL_ (some 19) rfl rfl Try.func115 (by kernel_rfl) rfl #[.int .i64 (rd l0 x10_1), .int .i64 0, .int .i64 (wrap64 ((l0.length : Int) - 1))] rfl (by (try simp only [List.map_toArray, List.map_cons, List.map_nil]); first | done | rfl | (simp only [List.length_drop, List.length_take]; rfl)) ?_; (with_reducible refine (spec_l01In.calls (rd l0 x10_1) 0 (wrap64 ((l0.length : Int) - 1)) false _ A6.out).mono ?_); rintro e w' ⟨rfl, ⟨nd, rfl⟩⟩; refine ⟨_, rfl, ?_⟩))
                go_ret
                exact ⟨by first | rfl | (simp; done) | (simp [*]; done), by repeat (first | exact Drawn0.refl _ | apply Drawn0.step)⟩
            · rw [if_neg c5] at H
              exact absurd H (by simp)
          · rw [if_neg c4] at H
            exact absurd H (by simp)
        · rw [if_neg c3] at H
          have c3b0 : decide (x10_1 < (l0.length : Int)) = false := decide_eq_false c3
          clear c3
          obtain rfl := Option.some.inj H
          go_wp2
          go_ret
          exact ⟨by first | rfl | (simp; done) | (simp [*]; done), by repeat (first | exact Drawn0.refl _ | apply Drawn0.step)⟩
end Go.Proofs.Ytbdnellgioimbaa.A
end
section
namespace Go.Proofs.Ytbdnellgioimbaa.A
open Go.RowKit Go.Proofs.YtbdnellgioimbaaW.PrintWords Go.Proofs.YtbdnellgioimbaaW.PrintLast Go.Proofs.YtbdnellgioimbaaW.PrintMore
attribute [local go_sem] max2_int min2_int max_two min_two max_three min_three max_four min_four
set_option linter.unusedVariables false
set_option linter.unusedSimpArgs false
def spec_IsTransitive.f (k : Nat) (l0 : List Int) (l1 : List Int) : Option (Bool) := (spec_PermOk.f k l0).bind fun t124 => (if t124 = true then ((spec_PermOk.f k l1).bind fun t125 => (if t125 = true then (if (l0.length : Int) = (l1.length : Int) then (if (l0.length : Int) > 0 then ((spec_l02Reach.f k l0 l1 0).bind fun t126 => (some ((t126.length : Int) == (l0.length : Int)))) else (some false)) else (some false)) else (some false))) else (some false))
theorem spec_IsTransitive.mono : ∀ a0 a1 k, LeO (spec_IsTransitive.f k a0 a1) (spec_IsTransitive.f (k + 1) a0 a1) := by
  intro a0 a1 k
  unfold spec_IsTransitive.f
  repeat' first|exact spec_PermOk.mono _ _|exact spec_l02Reach.mono _ _ _ _|exact lo_|refine LeO.ite ?_ ?_|refine LeO.bind ?_ (fun _ => ?_)
set_option maxHeartbeats 8000000 in
set_option maxRecDepth 100000 in
theorem spec_IsTransitive.calls (k : Nat) (A0 : Option Addr) (c0 : Nat) (l0 : List Int) (A1 : Option Addr) (c1 : Nat) (l1 : List Int) (r : Bool) (w : World) (hr0 : Kd.C (Kd.int .i64) w A0 l0.length l0) (hc0 : l0.length ≤ c0) (hr1 : Kd.C (Kd.int .i64) w A1 l1.length l1) (hc1 : l1.length ≤ c1) (h : spec_IsTransitive.f k l0 l1 = some r) :
    Calls Try.prog 110 #[.slice A0 l0.length c0, .slice A1 l1.length c1] w fun e w' => e = .returned (.bool r) ∧ Below w.heap.size w w' := by
  have HR0 := Aside0.mk hr0
  have HC0 := Aside0.mk hc0
  clear hr0 hc0
  have HR1 := Aside0.mk hr1
  have HC1 := Aside0.mk hc1
  clear hr1 hc1
  have HB := Aside0.mk (Below.refl w.heap.size w)
  have H := h
  unfold spec_IsTransitive.f at H
  clear h
  obtain ⟨t124, A3, H⟩ := bi_ H
  by_cases c4 : t124 = true
  · subst c4
    rw [if_pos rfl] at H
    obtain ⟨t125, A5, H⟩ := bi_ H
    by_cases c6 : t125 = true
    · subst c6
      rw [if_pos rfl] at H
      by_cases c7 : (l0.length : Int) = (l1.length : Int)
      · rw [if_pos c7] at H
        have c7b0 : ((l0.length : Int) == (l1.length : Int)) = true := beq_iff_eq.mpr c7
        have c7b1 : ((l0.length : Int) != (l1.length : Int)) = false := bne_eq_false_iff_eq.mpr c7
        have c7b2 : (l0.length == l1.length) = true := by first | simpa using c7 | (simp at c7 ⊢; omega)
        clear c7
        by_cases c8 : (l0.length : Int) > 0
        · rw [if_pos c8] at H
          have c8b0 : decide (0 < (l0.length : Int)) = true := decide_eq_true c8
          have c8b1 : decide (0 < l0.length) = true := decide_eq_true (by omega)
          clear c8
          obtain ⟨t126, A9, H⟩ := bi_ H
          obtain rfl := Option.some.inj H
          go_enter Try.func110, Try.ntmps110
          go_wp2_with (first | ((with_reducible refine gate_callee (f := 136) rfl ?_); refine gL_ (some 6) Try.func136 #[.slice A0 l0.length c0] rfl qa_ ?_; (with_reducible refine (spec_PermOk.calls k _ _ l0 true _ (cc_ HR0) HC0.out A3.out).mono ?_); rintro e w' ⟨rfl, ⟨nd, rfl⟩⟩; refine ⟨_, rfl, ?_⟩) | (go_at_call 136; (with_reducible refine (spec_PermOk.calls k _ _ l1 true _ (cc_ HR1) HC1.out A5.out).mono ?_); rintro e w' ⟨rfl, ⟨nd, rfl⟩⟩) | (go_at_call 135; (with_reducible refine (spec_l02Reach.calls k _ _ l0 _ _ l1 0 t126 _ (cc_ HR0) HC0.out (cc_ HR1) HC1.out A9.out).mono ?_); rintro e w10 ⟨v127, rfl, ho0, hb⟩; have HO128 := rl_ w ho0; replace HB := b1_ hb; clear hb ho0; obtain ⟨Ao11, co11, eo11⟩ := Kd.R_slice HO128.out; subst eo11))
          go_ret
          exact ⟨qb_, hB_⟩
        · rw [if_neg c8] at H
          have c8b0 : decide (0 < (l0.length : Int)) = false := decide_eq_false c8
          have c8b1 : decide (0 < l0.length) = false := decide_eq_false (by omega)
          clear c8
          obtain rfl := Option.some.inj H
          go_enter Try.func110, Try.ntmps110
          go_wp2_with (first | ((with_reducible refine gate_callee (f := 136) rfl ?_); refine gL_ (some 6) Try.func136 #[.slice A0 l0.length c0] rfl qa_ ?_; (with_reducible refine (spec_PermOk.calls k _ _ l0 true _ (cc_ HR0) HC0.out A3.out).mono ?_); rintro e w' ⟨rfl, ⟨nd, rfl⟩⟩; refine ⟨_, rfl, ?_⟩) | (go_at_call 136; (with_reducible refine (spec_PermOk.calls k _ _ l1 true _ (cc_ HR1) HC1.out A5.out).mono ?_); rintro e w' ⟨rfl, ⟨nd, rfl⟩⟩))
          go_ret
          exact ⟨qb_, hB_⟩
      · rw [if_neg c7] at H
        have c7b0 : ((l0.length : Int) == (l1.length : Int)) = false := beq_eq_false_iff_ne.mpr c7
        have c7b1 : ((l0.length : Int) != (l1.length : Int)) = true := bne_iff_ne.mpr c7
        have c7b2 : (l0.length == l1.length) = false := by first | simpa using c7 | (simp at c7 ⊢; omega)
        obtain rfl := Option.some.inj H
        go_enter Try.func110, Try.ntmps110
        go_wp2_with (first | ((with_reducible refine gate_callee (f := 136) rfl ?_); refine gL_ (some 6) Try.func136 #[.slice A0 l0.length c0] rfl qa_ ?_; (with_reducible refine (spec_PermOk.calls k _ _ l0 true _ (cc_ HR0) HC0.out A3.out).mono ?_); rintro e w' ⟨rfl, ⟨nd, rfl⟩⟩; refine ⟨_, rfl, ?_⟩) | (go_at_call 136; (with_reducible refine (spec_PermOk.calls k _ _ l1 true _ (cc_ HR1) HC1.out A5.out).mono ?_); rintro e w' ⟨rfl, ⟨nd, rfl⟩⟩))
        go_ret
        exact ⟨qb_, hB_⟩
    · replace c6 := Bool.eq_false_iff.mpr c6
      subst c6
      have H1 : (some false) = some r := by rw [if_neg (show ¬ (false = true) by decide)] at H; exact H
      clear H
      have H := H1
      clear H1
      obtain rfl := Option.some.inj H
      go_enter Try.func110, Try.ntmps110
      go_wp2_with (first | ((with_reducible refine gate_callee (f := 136) rfl ?_); refine gL_ (some 6) Try.func136 #[.slice A0 l0.length c0] rfl qa_ ?_; (with_reducible refine (spec_PermOk.calls k _ _ l0 true _ (cc_ HR0) HC0.out A3.out).mono ?_); rintro e w' ⟨rfl, ⟨nd, rfl⟩⟩; refine ⟨_, rfl, ?_⟩) | (go_at_call 136; (with_reducible refine (spec_PermOk.calls k _ _ l1 false _ (cc_ HR1) HC1.out A5.out).mono ?_); rintro e w' ⟨rfl, ⟨nd, rfl⟩⟩))
      go_ret
      exact ⟨qb_, hB_⟩
  · replace c4 := Bool.eq_false_iff.mpr c4
    subst c4
    have H1 : (some false) = some r := by rw [if_neg (show ¬ (false = true) by decide)] at H; exact H
    clear H
    have H := H1
    clear H1
    obtain rfl := Option.some.inj H
    go_enter Try.func110, Try.ntmps110
    go_wp2_with (first | ((with_reducible refine gate_callee (f := 136) rfl ?_); refine gL_ (some 6) Try.func136 #[.slice A0 l0.length c0] rfl qa_ ?_; (with_reducible refine (spec_PermOk.calls k _ _ l0 false _ (cc_ HR0) HC0.out A3.out).mono ?_); rintro e w' ⟨rfl, ⟨nd, rfl⟩⟩; refine ⟨_, rfl, ?_⟩))
    go_ret
    exact ⟨qb_, hB_⟩
end Go.Proofs.Ytbdnellgioimbaa.A
end
section
namespace Go.Proofs.Ytbdnellgioimbaa.A
open Go.RowKit Go.Proofs.YtbdnellgioimbaaW.PrintWords Go.Proofs.YtbdnellgioimbaaW.PrintLast Go.Proofs.YtbdnellgioimbaaW.PrintMore
attribute [local go_sem] max2_int min2_int max_two min_two max_three min_three max_four min_four
set_option linter.unusedVariables false
set_option linter.unusedSimpArgs false
def spec_SurfaceOk.f (k : Nat) (l0_0 : List Int) (l0_1 : List Int) : Option (Bool) := (spec_IsTransitive.f k l0_0 l0_1).bind fun t130 => (some t130)
theorem spec_SurfaceOk.mono : ∀ a0 a1 k, LeO (spec_SurfaceOk.f k a0 a1) (spec_SurfaceOk.f (k + 1) a0 a1) := by
  intro a0 a1 k
  unfold spec_SurfaceOk.f
  repeat' first|exact spec_IsTransitive.mono _ _ _|exact lo_|refine LeO.ite ?_ ?_|refine LeO.bind ?_ (fun _ => ?_)
set_option maxHeartbeats 8000000 in
set_option maxRecDepth 100000 in
theorem spec_SurfaceOk.calls (k : Nat) (A0_0 : Option Addr) (c0_0 : Nat) (l0_0 : List Int) (A0_1 : Option Addr) (c0_1 : Nat) (l0_1 : List Int) (r : Bool) (w : World) (hr0_0 : Kd.C (Kd.int .i64) w A0_0 l0_0.length l0_0) (hc0_0 : l0_0.length ≤ c0_0) (hr0_1 : Kd.C (Kd.int .i64) w A0_1 l0_1.length l0_1) (hc0_1 : l0_1.length ≤ c0_1) (h : spec_SurfaceOk.f k l0_0 l0_1 = some r) :
    Calls Try.prog 63 #[.agg #[.slice A0_0 l0_0.length c0_0, .slice A0_1 l0_1.length c0_1]] w fun e w' => e = .returned (.bool r) ∧ Below w.heap.size w w' := by
  have hu27 := Try.underlying27
  have HR0_0 := Aside0.mk hr0_0
  have HC0_0 := Aside0.mk hc0_0
  clear hr0_0 hc0_0
  have HR0_1 := Aside0.mk hr0_1
  have HC0_1 := Aside0.mk hc0_1
  clear hr0_1 hc0_1
  have HB := Aside0.mk (Below.refl w.heap.size w)
  have H := h
  unfold spec_SurfaceOk.f at H
  clear h
  obtain ⟨t130, A2, H⟩ := bi_ H
  obtain rfl := Option.some.inj H
  go_enter Try.func63, Try.ntmps63
  go_wp2_with (first | ((with_reducible refine gate_dst (N := 1) rfl ?_); refine bx_ 1 #[.slice A0_0 l0_0.length c0_0, .slice A0_1 l0_1.length c0_1] 27 ?_; intro gb129 hg w3 hbox hb; have BK129 := Aside0.mk hbox; have GW129 := gw_ w hg; have GE129 := GW129; replace HB := b1_ hb; clear hb hbox hg; obtain ⟨hcz4_0, hcz4_1, hfz4_0, hfz4_1⟩ := c2_ BK129) | ((with_reducible refine gate_callee (f := 110) rfl ?_); refine gL_ (some 7) Try.func110 #[.slice A0_0 l0_0.length c0_0, .slice A0_1 l0_1.length c0_1] rfl qa_ ?_; (with_reducible refine (spec_IsTransitive.calls k _ _ l0_0 _ _ l0_1 t130 _ (cb_ HR0_0) HC0_0.out (cb_ HR0_1) HC0_1.out A2.out).mono ?_); rintro e w5 ⟨rfl, hb⟩; refine ⟨_, rfl, ?_⟩; replace BK129 := bb_ BK129 hb; replace HB := b1_ hb; clear hb))
  go_ret
  exact ⟨qb_, hB_⟩
end Go.Proofs.Ytbdnellgioimbaa.A
end
section
namespace Go.Proofs.Ytbdnellgioimbaa.A
open Go.RowKit Go.Proofs.YtbdnellgioimbaaW.PrintWords Go.Proofs.YtbdnellgioimbaaW.PrintLast Go.Proofs.YtbdnellgioimbaaW.PrintMore
attribute [local go_sem] max2_int min2_int max_two min_two max_three min_three max_four min_four
set_option linter.unusedVariables false
set_option linter.unusedSimpArgs false
mutual
def spec_CyclesOf.l0 : Nat → List Int → List (List Int) → List Bool → Int → Int → Option ((List (List Int)))
  | 0, _, _, _, _, _ => none
  | k + 1, x0, x3, x4, x16, x17 => if x17 < x16 then (spec_CyclesOf.l1 k x0 x3 x4 (([] : List Int)) x17 x16 x17) else (some x3)
def spec_CyclesOf.l1 : Nat → List Int → List (List Int) → List Bool → List Int → Int → Int → Int → Option ((List (List Int)))
  | 0, _, _, _, _, _, _, _ => none
  | k + 1, x0, x3, x4, x6, x7, x16, x17 => if 0 ≤ x7 then (if x7 < (x4.length : Int) then (if rdOf false x4 x7 = true then (if (x6.length : Int) > 0 then (if x3.length < 5864062014805 then (spec_CyclesOf.l0 k x0 (x3 ++ [x6]) x4 x16 (wrap64 (x17 + 1))) else (none)) else (spec_CyclesOf.l0 k x0 x3 x4 x16 (wrap64 (x17 + 1)))) else (if x6.length < 17592186044416 then (if x7 < (x0.length : Int) then (spec_CyclesOf.l1 k x0 x3 (x4.set (x7 : Int).toNat true) (x6 ++ [x7]) (rd x0 x7) x16 x17) else (none)) else (none))) else (none)) else (none)
end
def spec_CyclesOf.f (k : Nat) (l0 : List Int) : Option ((List (List Int))) := (spec_PermOk.f k l0).bind fun t205 => (if t205 = true then (if 0 ≤ (l0.length : Int) then (if ((l0.length : Int) : Int).toNat ≤ 281474976710656 then (spec_CyclesOf.l0 k l0 (([] : List (List Int))) (List.replicate ((l0.length : Int) : Int).toNat false) (l0.length : Int) 0) else (none)) else (none)) else (some ([] : List (List Int))))
theorem spec_CyclesOf.mono_l : ∀ k, (∀ y0 y1 y2 y3 y4, LeO (spec_CyclesOf.l0 k y0 y1 y2 y3 y4) (spec_CyclesOf.l0 (k + 1) y0 y1 y2 y3 y4)) ∧ (∀ y0 y1 y2 y3 y4 y5 y6, LeO (spec_CyclesOf.l1 k y0 y1 y2 y3 y4 y5 y6) (spec_CyclesOf.l1 (k + 1) y0 y1 y2 y3 y4 y5 y6))
  | 0 => ⟨fun _ _ _ _ _ r h => by simp [spec_CyclesOf.l0] at h, fun _ _ _ _ _ _ _ r h => by simp [spec_CyclesOf.l1] at h⟩
  | k + 1 => by
    obtain ⟨ih0, ih1⟩ := spec_CyclesOf.mono_l k
    refine ⟨?_, ?_⟩
    · intro y0 y1 y2 y3 y4
      unfold spec_CyclesOf.l0
      repeat' first|exact ih0 _ _ _ _ _|exact ih1 _ _ _ _ _ _ _|exact spec_PermOk.mono _ _|exact lo_|refine LeO.ite ?_ ?_|refine LeO.bind ?_ (fun _ => ?_)
    · intro y0 y1 y2 y3 y4 y5 y6
      unfold spec_CyclesOf.l1
      repeat' first|exact ih0 _ _ _ _ _|exact ih1 _ _ _ _ _ _ _|exact spec_PermOk.mono _ _|exact lo_|refine LeO.ite ?_ ?_|refine LeO.bind ?_ (fun _ => ?_)
theorem spec_CyclesOf.mono : ∀ a0 k, LeO (spec_CyclesOf.f k a0) (spec_CyclesOf.f (k + 1) a0) := by
  intro a0 k
  obtain ⟨ih0, ih1⟩ := spec_CyclesOf.mono_l k
  unfold spec_CyclesOf.f
  repeat' first|exact ih0 _ _ _ _ _|exact ih1 _ _ _ _ _ _ _|exact spec_PermOk.mono _ _|exact lo_|refine LeO.ite ?_ ?_|refine LeO.bind ?_ (fun _ => ?_)
set_option maxHeartbeats 8000000 in
set_option maxRecDepth 100000 in
theorem spec_CyclesOf.calls (k : Nat) (A0 : Option Addr) (c0 : Nat) (l0 : List Int) (r : List (List Int)) (w : World) (hr0 : Kd.C (Kd.int .i64) w A0 l0.length l0) (hc0 : l0.length ≤ c0) (h : spec_CyclesOf.f k l0 = some r) :
    Calls Try.prog 111 #[.slice A0 l0.length c0] w fun e w' => ∃ v0_ : Value, e = .returned (v0_) ∧ Kd.S (Kd.slice 3 (Kd.int .i64)) 22 w' w.heap.size (fun _ => True) v0_ r ∧ Below w.heap.size w w' := by
  have HR0 := Aside0.mk hr0
  have HC0 := Aside0.mk hc0
  clear hr0 hc0
  have HB := Aside0.mk (Below.refl w.heap.size w)
  have H := h
  unfold spec_CyclesOf.f at H
  clear h
  obtain ⟨t205, A2, H⟩ := bi_ H
  by_cases c3 : t205 = true
  · subst c3
    rw [if_pos rfl] at H
    obtain ⟨y206, hy206⟩ : ∃ y_ : List (List Int), y_ = (([] : List (List Int))) := ⟨_, rfl⟩
    replace H : (if 0 ≤ (l0.length : Int) then (if ((l0.length : Int) : Int).toNat ≤ 281474976710656 then (spec_CyclesOf.l0 k l0 y206 (List.replicate ((l0.length : Int) : Int).toNat false) (l0.length : Int) 0) else (none)) else (none)) = some r := by first | (rw [hy206]; exact H) | exact H
    have Ny206 := Aside0.mk hy206
    clear hy206
    have c4 := cp_ H
    replace H := ca_ H
    have c4b0 := eq_true c4
    have c4b1 := decide_eq_true c4
    clear c4
    have c5 := cp_ H
    replace H := ca_ H
    have c5b0 := eq_true c5
    have c5b1 := decide_eq_true c5
    clear c5
    obtain ⟨y209, hy209⟩ : ∃ y_ : List Bool, y_ = (List.replicate ((l0.length : Int) : Int).toNat false) := ⟨_, rfl⟩
    replace H : (spec_CyclesOf.l0 k l0 y206 y209 (l0.length : Int) 0) = some r := by first | (rw [hy209]; exact H) | exact H
    have Ny209 := Aside0.mk hy209
    clear hy209
    have H' := Aside0.mk H
    clear H
    go_enter Try.func111, Try.ntmps111
    go_wp2_with (first | ((with_reducible refine gate_callee (f := 136) rfl ?_); refine gL_ (some 9) Try.func136 #[.slice A0 l0.length c0] rfl qa_ ?_; (with_reducible refine (spec_PermOk.calls k _ _ l0 true _ (cc_ HR0) HC0.out A2.out).mono ?_); rintro e w' ⟨rfl, ⟨nd, rfl⟩⟩; refine ⟨_, rfl, ?_⟩) | ((with_reducible refine gate_dst (N := 11) rfl ?_); refine Kd.S_lit (Kd.slice 3 (Kd.int .i64)) _ 22 ?hg (N := 11) ?hd (xs := ([] : List (List Int))) (inner := []) (ok := fun _ => True) (okp := fun _ => True) ?hr ?hp (fun _ hk => hk) trivial (Below.refl _ _) (Nat.le_refl _) (by simp) ?_; (case hd => rfl); (case hg => rfl); (case hr => first | (go_simp; done) | (go_simp; rfl)); (case hp => exact (Reps.none _ _)); intro v207 w6 ho7 hb hg_ hnew_; clear hg_ hnew_; (first | rw [← Ny206.out] at ho7 | (simp only [Int.reduceToNat] at ho7; rw [← Ny206.out] at ho7)); have HO208 := Aside0.mk (Kd.S_lower ho7 (below_size hB_)); replace HB := b1_ hb; clear hb ho7) | ((with_reducible refine gate_dst (N := 14) rfl ?_); refine Kd.R_make Kd.bool _ 4 rfl (N := 14) rfl 98 _ _ rfl (l0.length : Int) rfl rfl Try.underlying98 (.bool false) 1 info4 rfl (by decide) (by omega) false (ok := fun _ => True) (okp := fun _ => True) rfl (fun _ hk => hk) trivial (of_decide_eq_true qe_) (Nat.le_trans (Nat.mul_le_mul_right _ (of_decide_eq_true qe_ : (l0.length : Int).toNat ≤ 281474976710656)) (by omega)) (Below.refl _ _) (Nat.le_refl _) ?_; intro v210 w8 ho9 hb hg_ hnew_; clear hg_ hnew_; (first | rw [← Ny209.out] at ho9 | (simp only [Int.reduceToNat] at ho9; rw [← Ny209.out] at ho9)); replace HO208 := sb_ HO208 hb; have HO211 := rl_ w ho9; replace HB := b1_ hb; clear hb ho9))
    go_loopg [3, 17] k (fun kq v3 v17 w' => ∃ (x3_1 : List (List Int)) (x4_1 : List Bool) (x17_1 : Int), v17 = .int .i64 x17_1 ∧ Aside0 (spec_CyclesOf.l0 kq l0 x3_1 x4_1 (l0.length : Int) x17_1 = some r) ∧ Aside0 (kq ≤ k) ∧ Aside0 (Kd.S (Kd.slice 3 (Kd.int .i64)) 22 w' w.heap.size (fun _ => True) v3 x3_1) ∧ Aside0 (Kd.R Kd.bool 4 w' w.heap.size (fun _ => True) v210 x4_1) ∧ Aside0 (Below w.heap.size w w'))
    case atStart => exact ⟨(y206), (y209), (0), qc_, H', ⟨Nat.le_refl _⟩, ⟨(ss_ HO208)⟩, ⟨(rr_ HO211)⟩, ⟨hB_⟩⟩
    case round =>
      clear H'
      obtain ⟨x3_1, x4_1, x17_1, rfl, HA, HK1, HO_3, HO_4, HB⟩ := hrel
      cases gk with
      | zero => exact absurd HA.out (by simp [spec_CyclesOf.l0])
      | succ k1 =>
        have H := HA.out
        clear HA
        simp only [spec_CyclesOf.l0] at H
        by_cases c10 : x17_1 < (l0.length : Int)
        · rw [if_pos c10] at H
          have c10b0 := decide_eq_true c10
          clear c10
          obtain ⟨y212, hy212⟩ : ∃ y_ : List Int, y_ = (([] : List Int)) := ⟨_, rfl⟩
          replace H : (spec_CyclesOf.l1 k1 l0 x3_1 x4_1 y212 x17_1 (l0.length : Int) x17_1) = some r := by first | (rw [hy212]; exact H) | exact H
          have Ny212 := Aside0.mk hy212
          clear hy212
          have H' := Aside0.mk H
          clear H
          go_wp2_with (first | ((with_reducible refine gate_dst (N := 20) rfl ?_); refine Kd.R_lit (Kd.int .i64) _ 3 ?hg (N := 20) ?hd (xs := ([] : List Int)) (inner := []) (ok := fun _ => True) (okp := fun _ => True) ?hr ?hp (fun _ hk => hk) trivial (Below.refl _ _) (Nat.le_refl _) (by simp) ?_; (case hd => rfl); (case hg => rfl); (case hr => first | (go_simp; done) | (go_simp; rfl)); (case hp => exact (Reps.none _ _)); intro v213 w11 ho12 hb hg_ hnew_; clear hg_ hnew_; (first | rw [← Ny212.out] at ho12 | (simp only [Int.reduceToNat] at ho12; rw [← Ny212.out] at ho12)); replace HO_3 := Aside0.mk (Kd.S_elder' (ss_ HO_3) (Kd.R_base ho12) hb); replace HO_4 := rb_ HO_4 hb; have HO214 := rl_ w ho12; replace HB := b1_ hb; clear hb ho12))
          go_loopg [6, 7] k1 (fun kq v6 v7 w' => ∃ (x4_2 : List Bool) (x6_2 : List Int) (x7_2 : Int), v7 = .int .i64 x7_2 ∧ Aside0 (spec_CyclesOf.l1 kq l0 x3_1 x4_2 x6_2 x7_2 (l0.length : Int) x17_1 = some r) ∧ Aside0 (kq ≤ k1) ∧ Aside0 (Kd.S (Kd.slice 3 (Kd.int .i64)) 22 w' w.heap.size (fun k_ => some k_ ≠ (v6 : Value).ownBlock) u3 x3_1) ∧ Aside0 (Kd.R Kd.bool 4 w' w.heap.size (fun _ => True) v210 x4_2) ∧ Aside0 (Kd.R (Kd.int .i64) 3 w' w.heap.size (fun _ => True) v6 x6_2) ∧ Aside0 (Below w.heap.size w w'))
          case atStart => exact ⟨(x4_1), (y212), (x17_1), qc_, H', ⟨Nat.le_refl _⟩, ⟨(sw_ (Kd.S_mono HO_3.out (fun _ hk => hk.2)))⟩, ⟨(rr_ HO_4)⟩, ⟨(rr_ HO214)⟩, ⟨hB_⟩⟩
          case round =>
            clear H'
            obtain ⟨x4_2, x6_2, x7_2, rfl, HA, HK2, HO_3, HO_4, HO_6, HB⟩ := hrel
            cases gk with
            | zero => exact absurd HA.out (by simp [spec_CyclesOf.l1])
            | succ k2 =>
              have H := HA.out
              clear HA
              simp only [spec_CyclesOf.l1] at H
              have c13 := cp_ H
              replace H := ca_ H
              have c13b0 := decide_eq_true c13
              clear c13
              have c14 := cp_ H
              replace H := ca_ H
              have c14b0 := decide_eq_true c14
              clear c14
              obtain ⟨bq15, hbq15⟩ : ∃ b_ : Bool, b_ = (rdOf false x4_2 x7_2) := ⟨_, rfl⟩
              replace H : (if bq15 = true then (if (x6_2.length : Int) > 0 then (if x3_1.length < 5864062014805 then (spec_CyclesOf.l0 k2 l0 (x3_1 ++ [x6_2]) x4_2 (l0.length : Int) (wrap64 (x17_1 + 1))) else (none)) else (spec_CyclesOf.l0 k2 l0 x3_1 x4_2 (l0.length : Int) (wrap64 (x17_1 + 1)))) else (if x6_2.length < 17592186044416 then (if x7_2 < (l0.length : Int) then (spec_CyclesOf.l1 k2 l0 x3_1 (x4_2.set (x7_2 : Int).toNat true) (x6_2 ++ [x7_2]) (rd l0 x7_2) (l0.length : Int) x17_1) else (none)) else (none))) = some r := by rw [← hbq15] at H; exact H
              have Nbq15 := Aside0.mk hbq15
              clear hbq15
              by_cases c16 : bq15 = true
              · subst c16
                rw [if_pos rfl] at H
                by_cases c17 : (x6_2.length : Int) > 0
                · rw [if_pos c17] at H
                  have c17b0 : decide (0 < (x6_2.length : Int)) = true := decide_eq_true c17
                  have c17b1 : decide (0 < x6_2.length) = true := decide_eq_true (by omega)
                  clear c17
                  have c18 := cp_ H
                  replace H := ca_ H
                  have LMc18 := Aside0.mk c18
                  clear c18
                  obtain ⟨y216, hy216⟩ : ∃ y_ : List (List Int), y_ = (x3_1 ++ [x6_2]) := ⟨_, rfl⟩
                  replace H : (spec_CyclesOf.l0 k2 l0 y216 x4_2 (l0.length : Int) (wrap64 (x17_1 + 1))) = some r := by first | (rw [hy216]; exact H) | exact H
                  have Ny216 := Aside0.mk hy216
                  clear hy216
                  have H' := Aside0.mk H
                  clear H
                  obtain ⟨Ao19, co19, eo19⟩ := Kd.R_slice HO_4.out
                  subst eo19
                  have p215 : 0 ≤ (x7_2 : Int) := of_decide_eq_true qe_
                  have q215 : x7_2 < (x4_2.length : Int) := of_decide_eq_true qe_
                  obtain ⟨ad215, e215, hx215_0⟩ := Kd.at_bool (Kd.R_reads' HO_4.out).2.2 x7_2 p215 q215
                  (try rw [← Nbq15.out] at hx215_0)
                  cases e215
                  replace p215 := eq_true p215
                  replace q215 := eq_true q215
                  obtain ⟨Ao20, co20, eo20⟩ := Kd.R_slice HO_6.out
                  subst eo20
                  go_wp2_with (first | ((with_reducible refine gate_builtin (b := .append) (xs := #[.tmp 41, .tmp 43]) rfl ?_); at_builtin; refine Kd.S_append (Kd.slice 3 (Kd.int .i64)) (w0 := w) w.heap.size rfl (.tmp 41) (.tmp 43) 40 22 (.slice none 0 0) 24 rfl Try.underlying40 info22 rfl (by decide) (by omega) u3 x3_1 x6_2 [.slice Ao20 x6_2.length co20] (fun _ => True) (fun k_ => some k_ = (.slice Ao20 x6_2.length co20 : Value).ownBlock) rfl rfl ?aP (fun k_ hk_ => ((Kd.R_mono (ok' := fun k_ => ((fun _ => True)) k_ ∧ some k_ ≠ (u3 : Value).ownBlock) (Kd.R_apart' (HO_6.out) (Kd.S_typed HO_3.out) (by decide)) (fun k_ hk => ⟨trivial, hk.2⟩))).1 k_ hk_.symm) ?aF ?aO ?aB ?aS ?aL ?_; (case aP => exact Kd.M_row (Kd.R_mono (Kd.R_tight rfl (Kd.R_mono (ok' := fun k_ => ((fun _ => True)) k_ ∧ some k_ ≠ (u3 : Value).ownBlock) (Kd.R_apart' (HO_6.out) (Kd.S_typed HO_3.out) (by decide)) (fun k_ hk => ⟨trivial, hk.2⟩))) (fun _ h_ => h_))); (case aB => exact hB_); (case aF => exact (fun _ _ => trivial)); (case aO => exact (sw_ (Kd.S_mono HO_3.out (fun k_ hk => ⟨trivial, fun e_ => hk e_⟩)))); (case aS => exact (below_size hB_)); (case aL => have := LMc18.out; omega); intro v217 w21 ho hb hg hat; rw [← Ny216.out] at ho; replace HO_4 := Aside0.mk (Kd.R_over' (rr_ HO_4) (Kd.S_typed (ss_ HO_3)) (by decide) hg); replace HB := Aside0.mk hb; have HO218 := Aside0.mk ho; clear HO_3 HO_6; clear ho hb hg hat))
                  go_roundg k2
                  case measure => have := HK1.out; have := HK2.out; omega
                  case rel => exact ⟨(y216), (x4_2), (wrap64 (x17_1 + 1)), qc_, H', ⟨by have := HK1.out; have := HK2.out; omega⟩, ⟨(ss_ HO218)⟩, ⟨(rr_ HO_4)⟩, ⟨hB_⟩⟩
                · rw [if_neg c17] at H
                  have c17b0 : decide (0 < (x6_2.length : Int)) = false := decide_eq_false c17
                  have c17b1 : decide (0 < x6_2.length) = false := decide_eq_false (by omega)
                  clear c17
                  have H' := Aside0.mk H
                  clear H
                  obtain ⟨Ao22, co22, eo22⟩ := Kd.R_slice HO_4.out
                  subst eo22
                  have p215 : 0 ≤ (x7_2 : Int) := of_decide_eq_true qe_
                  have q215 : x7_2 < (x4_2.length : Int) := of_decide_eq_true qe_
                  obtain ⟨ad215, e215, hx215_0⟩ := Kd.at_bool (Kd.R_reads' HO_4.out).2.2 x7_2 p215 q215
                  (try rw [← Nbq15.out] at hx215_0)
                  cases e215
                  replace p215 := eq_true p215
                  replace q215 := eq_true q215
                  obtain ⟨Ao23, co23, eo23⟩ := Kd.R_slice HO_6.out
                  subst eo23
                  go_wp2
                  go_roundg k2
                  case measure => have := HK1.out; have := HK2.out; omega
                  case rel => exact ⟨(x3_1), (x4_2), (wrap64 (x17_1 + 1)), qc_, H', ⟨by have := HK1.out; have := HK2.out; omega⟩, ⟨(sw_ (Kd.S_mono HO_3.out (fun _ hk => trivial)))⟩, ⟨(rr_ HO_4)⟩, ⟨hB_⟩⟩
              · replace c16 := Bool.eq_false_iff.mpr c16
                subst c16
                have H1 : (if x6_2.length < 17592186044416 then (if x7_2 < (l0.length : Int) then (spec_CyclesOf.l1 k2 l0 x3_1 (x4_2.set (x7_2 : Int).toNat true) (x6_2 ++ [x7_2]) (rd l0 x7_2) (l0.length : Int) x17_1) else (none)) else (none)) = some r := by rw [if_neg (show ¬ (false = true) by decide)] at H; exact H
                clear H
                have H := H1
                clear H1
                obtain ⟨y219, hy219⟩ : ∃ y_ : List Bool, y_ = (x4_2.set (x7_2 : Int).toNat true) := ⟨_, rfl⟩
                replace H : (if x6_2.length < 17592186044416 then (if x7_2 < (l0.length : Int) then (spec_CyclesOf.l1 k2 l0 x3_1 y219 (x6_2 ++ [x7_2]) (rd l0 x7_2) (l0.length : Int) x17_1) else (none)) else (none)) = some r := by first | (rw [hy219]; exact H) | exact H
                have Ny219 := Aside0.mk hy219
                clear hy219
                have c25 := cp_ H
                replace H := ca_ H
                have LMc25 := Aside0.mk c25
                clear c25
                obtain ⟨y220, hy220⟩ : ∃ y_ : List Int, y_ = (x6_2 ++ [x7_2]) := ⟨_, rfl⟩
                replace H : (if x7_2 < (l0.length : Int) then (spec_CyclesOf.l1 k2 l0 x3_1 y219 y220 (rd l0 x7_2) (l0.length : Int) x17_1) else (none)) = some r := by first | (rw [hy220]; exact H) | exact H
                have Ny220 := Aside0.mk hy220
                clear hy220
                have c26 := cp_ H
                replace H := ca_ H
                have c26b0 := decide_eq_true c26
                clear c26
                have H' := Aside0.mk H
                clear H
                obtain ⟨Ao27, co27, eo27⟩ := Kd.R_slice HO_4.out
                subst eo27
                have p215 : 0 ≤ (x7_2 : Int) := of_decide_eq_true qe_
                have q215 : x7_2 < (x4_2.length : Int) := of_decide_eq_true qe_
                obtain ⟨ad215, e215, hx215_0⟩ := Kd.at_bool (Kd.R_reads' HO_4.out).2.2 x7_2 p215 q215
                (try rw [← Nbq15.out] at hx215_0)
                cases e215
                replace p215 := eq_true p215
                replace q215 := eq_true q215
                have p24 : 0 ≤ (x7_2 : Int) := of_decide_eq_true qe_
                have q24 : (x7_2 : Int) < ((x4_2.length : Int) : Int) := of_decide_eq_true qe_
                obtain ⟨go24, co24, eo24, gb24, gl24, cl24, HG24⟩ := Kd.R_form HO_4.out (by omega)
                (first | cases eo24 | (injection eo24 with ea_ en_ ec_; (first | subst ea_ | (injection ea_ with ea_; subst ea_)); subst ec_; clear en_))
                have GB24 := Aside0.mk gb24
                have GG24 := Aside0.mk HG24
                clear gb24 gl24 HG24
                (first | simp only [add_plain] at hx215_0 | skip)
                obtain ⟨hx24_0, hf24_0⟩ := Kd.R_celln false HO_4.out (x7_2 : Int) p24 q24
                replace p24 := eq_true p24
                replace q24 := eq_true q24
                have HP28 := Kd.R_putg HO_4.out (x7_2 : Int) true
                go_wp2_with (first | ((with_reducible refine gate_store (t := 4) (p := 33) rfl ?_); refine store_event (t := 4) (p := 33) (v := ?vo_w29) (w1 := (wr.setCell ⟨go24, (x7_2 : Int).toNat, none⟩ (.bool true))) ?hg ?ho ?hn ?hr ?_; (case ho => rfl); (case hg => rfl); (case hn => rfl); (case hr => first | (go_simp; done) | (go_simp; rfl)); intro w29 hw; have hg : wr.grownBy w29 (some go24) := (by rw [hw]; exact HP28.2); have hp_ : Kd.R Kd.bool 4 w29 w.heap.size (fun _ => True) (.slice (some ⟨go24, 0, none⟩) x4_2.length co27) y219 := (by rw [hw, Ny219.out]; exact HP28.1); clear HP28; replace HO_3 := Aside0.mk (Kd.S_over' (v := (.slice (some ⟨go24, 0, none⟩) x4_2.length co27)) (ss_ HO_3) (Kd.R_typed HO_4.out) (by decide) hg); replace HO_6 := Aside0.mk (Kd.R_over' (v := (.slice (some ⟨go24, 0, none⟩) x4_2.length co27)) (rr_ HO_6) (Kd.R_typed HO_4.out) (by decide) hg); replace HO_4 := Aside0.mk (hp_); replace HB := Aside0.mk ((by rw [hw]; exact below_set (HB.out) GB24.out : Below w.heap.size w w29)); clear hg hw hp_) | ((with_reducible refine gate_builtin (b := .append) (xs := #[.tmp 34, .tmp 36]) rfl ?_); at_builtin; refine Kd.R_append (Kd.int .i64) (w0 := w) w.heap.size rfl (.tmp 34) (.tmp 36) 22 3 (.int .i64 0) 8 rfl Try.underlying22 info3 rfl (by decide) (by omega) u6 x6_2 x7_2 [.int .i64 x7_2] (fun _ => True) (fun _ => False) rfl rfl ?aP (fun _ hk => hk.elim) ?aF ?aO ?aB ?aS ?aL ?_; (case aP => exact rfl); (case aB => exact hB_); (case aF => exact (fun _ _ => trivial)); (case aO => exact (rr_ HO_6)); (case aS => exact (below_size hB_)); (case aL => have := LMc25.out; omega); intro v221 w30 ho hb hg hat; rw [← Ny220.out] at ho; replace HO_3 := Aside0.mk (Kd.S_after (ok := (fun _ => True)) (sw_ (Kd.S_mono HO_3.out (fun _ hk => ⟨trivial, hk⟩))) hg hat); replace HO_4 := Aside0.mk (Kd.R_over' (rr_ HO_4) (Kd.R_typed (rr_ HO_6)) (by decide) hg); replace HB := Aside0.mk hb; have HO222 := Aside0.mk ho; clear HO_6; clear ho hb hg hat; have p223 : 0 ≤ (x7_2 : Int) := of_decide_eq_true qe_; have q223 : x7_2 < (l0.length : Int) := of_decide_eq_true qe_; obtain ⟨ad223, e223, hx223_0⟩ := Kd.at_int HR0.out x7_2 p223 q223; cases e223; replace hx223_0 := (HB.out.cell (World.block_lt_of_cell? w _ hx223_0)).trans hx223_0; replace p223 := eq_true p223; replace q223 := eq_true q223))
                go_roundg k2
                case measure => have := HK1.out; have := HK2.out; omega
                case rel => exact ⟨(y219), (y220), (rd l0 x7_2), qc_, H', ⟨by have := HK1.out; have := HK2.out; omega⟩, ⟨(sw_ (Kd.S_mono HO_3.out (fun _ hk => hk.2)))⟩, ⟨(rr_ HO_4)⟩, ⟨(rr_ HO222)⟩, ⟨hB_⟩⟩
        · rw [if_neg c10] at H
          have c10b0 := decide_eq_false c10
          clear c10
          obtain rfl := Option.some.inj H
          go_wp2
          go_ret
          exact ⟨_, qb_, (ss_ HO_3), hB_⟩
  · replace c3 := Bool.eq_false_iff.mpr c3
    subst c3
    have H1 : (some ([] : List (List Int))) = some r := by rw [if_neg (show ¬ (false = true) by decide)] at H; exact H
    clear H
    have H := H1
    clear H1
    obtain rfl := Option.some.inj H
    go_enter Try.func111, Try.ntmps111
    go_wp2_with (first | ((with_reducible refine gate_callee (f := 136) rfl ?_); refine gL_ (some 9) Try.func136 #[.slice A0 l0.length c0] rfl qa_ ?_; (with_reducible refine (spec_PermOk.calls k _ _ l0 false _ (cc_ HR0) HC0.out A2.out).mono ?_); rintro e w' ⟨rfl, ⟨nd, rfl⟩⟩; refine ⟨_, rfl, ?_⟩))
    go_ret
    exact ⟨_, qb_, by first | exact Kd.S_nil _ _ _ _ _ | exact Kd.N_nil _ _ _ _ _ | exact Kd.V_nil _ _ _ _ _ | exact Kd.Q_nil _ _ _ _ _ | exact Kd.R_nil _ _ _ _ _, hB_⟩
end Go.Proofs.Ytbdnellgioimbaa.A
end
section
namespace Go.Proofs.Ytbdnellgioimbaa.A
open Go.RowKit Go.Proofs.YtbdnellgioimbaaW.PrintWords Go.Proofs.YtbdnellgioimbaaW.PrintLast Go.Proofs.YtbdnellgioimbaaW.PrintMore
attribute [local go_sem] max2_int min2_int max_two min_two max_three min_three max_four min_four
set_option linter.unusedVariables false
set_option linter.unusedSimpArgs false
def spec_l02Inverse.l0 : Nat → List Int → List Int → Int → Int → Option (List Int)
  | 0, _, _, _, _ => none
  | k + 1, x3, x9, x10, x11 => if x11 < x10 then (if 0 ≤ x11 then (if x11 < (x9.length : Int) then (if 0 ≤ (rd x9 x11) then (if (rd x9 x11) < (x3.length : Int) then (spec_l02Inverse.l0 k (x3.set ((rd x9 x11) : Int).toNat x11) x9 x10 (wrap64 (x11 + 1))) else (none)) else (none)) else (none)) else (none)) else (some x3)
def spec_l02Inverse.f (k : Nat) (l0 : List Int) : Option (List Int) := if 0 ≤ (l0.length : Int) then (if ((l0.length : Int) : Int).toNat ≤ 35184372088832 then (spec_l02Inverse.l0 k (List.replicate ((l0.length : Int) : Int).toNat 0) l0 (l0.length : Int) 0) else (none)) else (none)
theorem spec_l02Inverse.mono_l : ∀ k, (∀ y0 y1 y2 y3, LeO (spec_l02Inverse.l0 k y0 y1 y2 y3) (spec_l02Inverse.l0 (k + 1) y0 y1 y2 y3))
  | 0 => fun _ _ _ _ r h => by simp [spec_l02Inverse.l0] at h
  | k + 1 => by
    have ih0 := spec_l02Inverse.mono_l k
    · intro y0 y1 y2 y3
      unfold spec_l02Inverse.l0
      repeat' first|exact ih0 _ _ _ _|exact lo_|refine LeO.ite ?_ ?_|refine LeO.bind ?_ (fun _ => ?_)
theorem spec_l02Inverse.mono : ∀ a0 k, LeO (spec_l02Inverse.f k a0) (spec_l02Inverse.f (k + 1) a0) := by
  intro a0 k
  have ih0 := spec_l02Inverse.mono_l k
  unfold spec_l02Inverse.f
  repeat' first|exact ih0 _ _ _ _|exact lo_|refine LeO.ite ?_ ?_|refine LeO.bind ?_ (fun _ => ?_)
set_option maxHeartbeats 8000000 in
set_option maxRecDepth 100000 in
theorem spec_l02Inverse.calls (k : Nat) (A0 : Option Addr) (c0 : Nat) (l0 : List Int) (r : List Int) (w : World) (hr0 : Kd.C (Kd.int .i64) w A0 l0.length l0) (hc0 : l0.length ≤ c0) (h : spec_l02Inverse.f k l0 = some r) :
    Calls Try.prog 116 #[.slice A0 l0.length c0] w fun e w' => ∃ v0_ : Value, e = .returned (v0_) ∧ Kd.R (Kd.int .i64) 3 w' w.heap.size (fun _ => True) v0_ r ∧ Below w.heap.size w w' := by
  have HR0 := Aside0.mk hr0
  have HC0 := Aside0.mk hc0
  clear hr0 hc0
  have HB := Aside0.mk (Below.refl w.heap.size w)
  have H := h
  unfold spec_l02Inverse.f at H
  clear h
  have c2 := cp_ H
  replace H := ca_ H
  have c2b0 := eq_true c2
  have c2b1 := decide_eq_true c2
  clear c2
  have c3 := cp_ H
  replace H := ca_ H
  have c3b0 := eq_true c3
  have c3b1 := decide_eq_true c3
  clear c3
  obtain ⟨y131, hy131⟩ : ∃ y_ : List Int, y_ = (List.replicate ((l0.length : Int) : Int).toNat 0) := ⟨_, rfl⟩
  replace H : (spec_l02Inverse.l0 k y131 l0 (l0.length : Int) 0) = some r := by first | (rw [hy131]; exact H) | exact H
  have Ny131 := Aside0.mk hy131
  clear hy131
  have H' := Aside0.mk H
  clear H
  go_enter Try.func116, Try.ntmps116
  go_wp2_with (first | ((with_reducible refine gate_dst (N := 8) rfl ?_); refine Kd.R_make (Kd.int .i64) _ 3 rfl (N := 8) rfl 22 _ _ rfl (l0.length : Int) rfl rfl Try.underlying22 (.int .i64 0) 8 info3 rfl (by decide) (by omega) 0 (ok := fun _ => True) (okp := fun _ => True) rfl (fun _ hk => hk) trivial (of_decide_eq_true qe_) (Nat.le_trans (Nat.mul_le_mul_right _ (of_decide_eq_true qe_ : (l0.length : Int).toNat ≤ 35184372088832)) (by omega)) (Below.refl _ _) (Nat.le_refl _) ?_; intro v132 w4 ho5 hb hg_ hnew_; clear hg_ hnew_; (first | rw [← Ny131.out] at ho5 | (simp only [Int.reduceToNat] at ho5; rw [← Ny131.out] at ho5)); have HO133 := rl_ w ho5; replace HB := b1_ hb; clear hb ho5))
  go_loopg [11] k (fun kq v11 w' => ∃ (x3_1 : List Int) (x11_1 : Int), v11 = .int .i64 x11_1 ∧ Aside0 (spec_l02Inverse.l0 kq x3_1 l0 (l0.length : Int) x11_1 = some r) ∧ Aside0 (kq ≤ k) ∧ Aside0 (Kd.R (Kd.int .i64) 3 w' w.heap.size (fun _ => True) v132 x3_1) ∧ Aside0 (Below w.heap.size w w'))
  case atStart => exact ⟨(y131), (0), qc_, H', ⟨Nat.le_refl _⟩, ⟨(rr_ HO133)⟩, ⟨hB_⟩⟩
  case round =>
    clear H'
    obtain ⟨x3_1, x11_1, rfl, HA, HK1, HO_3, HB⟩ := hrel
    cases gk with
    | zero => exact absurd HA.out (by simp [spec_l02Inverse.l0])
    | succ k1 =>
      have H := HA.out
      clear HA
      simp only [spec_l02Inverse.l0] at H
      by_cases c6 : x11_1 < (l0.length : Int)
      · rw [if_pos c6] at H
        have c6b0 := decide_eq_true c6
        clear c6
        have c7 := cp_ H
        replace H := ca_ H
        have c7b0 := decide_eq_true c7
        clear c7
        have c8 := cp_ H
        replace H := ca_ H
        have c8b0 := decide_eq_true c8
        clear c8
        have c9 := cp_ H
        replace H := ca_ H
        have c9b0 := decide_eq_true c9
        clear c9
        have c10 := cp_ H
        replace H := ca_ H
        have c10b0 := decide_eq_true c10
        clear c10
        obtain ⟨y135, hy135⟩ : ∃ y_ : List Int, y_ = (x3_1.set ((rd l0 x11_1) : Int).toNat x11_1) := ⟨_, rfl⟩
        replace H : (spec_l02Inverse.l0 k1 y135 l0 (l0.length : Int) (wrap64 (x11_1 + 1))) = some r := by first | (rw [hy135]; exact H) | exact H
        have Ny135 := Aside0.mk hy135
        clear hy135
        have H' := Aside0.mk H
        clear H
        have p134 : 0 ≤ (x11_1 : Int) := of_decide_eq_true qe_
        have q134 : x11_1 < (l0.length : Int) := of_decide_eq_true qe_
        obtain ⟨ad134, e134, hx134_0⟩ := Kd.at_int HR0.out x11_1 p134 q134
        cases e134
        replace hx134_0 := (HB.out.cell (World.block_lt_of_cell? w _ hx134_0)).trans hx134_0
        replace p134 := eq_true p134
        replace q134 := eq_true q134
        have p11 : 0 ≤ ((rd l0 x11_1) : Int) := of_decide_eq_true qe_
        have q11 : ((rd l0 x11_1) : Int) < ((x3_1.length : Int) : Int) := of_decide_eq_true qe_
        obtain ⟨go11, co11, eo11, gb11, gl11, cl11, HG11⟩ := Kd.R_form HO_3.out (by omega)
        (first | cases eo11 | (injection eo11 with ea_ en_ ec_; (first | subst ea_ | (injection ea_ with ea_; subst ea_)); subst ec_; clear en_))
        have GB11 := Aside0.mk gb11
        have GG11 := Aside0.mk HG11
        clear gb11 gl11 HG11
        obtain ⟨hx11_0, hf11_0⟩ := Kd.R_celln 0 HO_3.out ((rd l0 x11_1) : Int) p11 q11
        replace p11 := eq_true p11
        replace q11 := eq_true q11
        have HP12 := Kd.R_putg HO_3.out ((rd l0 x11_1) : Int) x11_1
        go_wp2_with (first | ((with_reducible refine gate_store (t := 3) (p := 19) rfl ?_); refine store_event (t := 3) (p := 19) (v := ?vo_w13) (w1 := (wr.setCell ⟨go11, ((rd l0 x11_1) : Int).toNat, none⟩ (.int .i64 x11_1))) ?hg ?ho ?hn ?hr ?_; (case ho => rfl); (case hg => rfl); (case hn => rfl); (case hr => first | (go_simp; done) | (go_simp; rfl)); intro w13 hw; have hg : wr.grownBy w13 (some go11) := (by rw [hw]; exact HP12.2); have hp_ : Kd.R (Kd.int .i64) 3 w13 w.heap.size (fun _ => True) (.slice (some ⟨go11, 0, none⟩) x3_1.length co11) y135 := (by rw [hw, Ny135.out]; exact HP12.1); clear HP12; replace HO_3 := Aside0.mk (hp_); replace HB := Aside0.mk ((by rw [hw]; exact below_set (HB.out) GB11.out : Below w.heap.size w w13)); clear hg hw hp_))
        go_roundg k1
        case measure => have := HK1.out; omega
        case rel => exact ⟨(y135), (wrap64 (x11_1 + 1)), qc_, H', ⟨by have := HK1.out; omega⟩, ⟨(rr_ HO_3)⟩, ⟨hB_⟩⟩
      · rw [if_neg c6] at H
        have c6b0 := decide_eq_false c6
        clear c6
        obtain rfl := Option.some.inj H
        go_wp2
        go_ret
        exact ⟨_, qb_, (rr_ HO_3), hB_⟩
end Go.Proofs.Ytbdnellgioimbaa.A
end
section
namespace Go.Proofs.Ytbdnellgioimbaa.A
open Go.RowKit Go.Proofs.YtbdnellgioimbaaW.PrintWords Go.Proofs.YtbdnellgioimbaaW.PrintLast Go.Proofs.YtbdnellgioimbaaW.PrintMore
attribute [local go_sem] max2_int min2_int max_two min_two max_three min_three max_four min_four
set_option linter.unusedVariables false
set_option linter.unusedSimpArgs false
def spec_l02Then.l0 : Nat → List Int → List Int → List Int → Int → Int → Option (List Int)
  | 0, _, _, _, _, _ => none
  | k + 1, x1, x5, x9, x10, x11 => if x11 < x10 then (if 0 ≤ x11 then (if x11 < (x9.length : Int) then (if 0 ≤ (rd x9 x11) then (if (rd x9 x11) < (x1.length : Int) then (if x5.length < 17592186044416 then (spec_l02Then.l0 k x1 (x5 ++ [rd x1 (rd x9 x11)]) x9 x10 (wrap64 (x11 + 1))) else (none)) else (none)) else (none)) else (none)) else (none)) else (some x5)
def spec_l02Then.f (k : Nat) (l0 : List Int) (l1 : List Int) : Option (List Int) := spec_l02Then.l0 k l1 (([] : List Int)) l0 (l0.length : Int) 0
theorem spec_l02Then.mono_l : ∀ k, (∀ y0 y1 y2 y3 y4, LeO (spec_l02Then.l0 k y0 y1 y2 y3 y4) (spec_l02Then.l0 (k + 1) y0 y1 y2 y3 y4))
  | 0 => fun _ _ _ _ _ r h => by simp [spec_l02Then.l0] at h
  | k + 1 => by
    have ih0 := spec_l02Then.mono_l k
    · intro y0 y1 y2 y3 y4
      unfold spec_l02Then.l0
      repeat' first|exact ih0 _ _ _ _ _|exact lo_|refine LeO.ite ?_ ?_|refine LeO.bind ?_ (fun _ => ?_)
theorem spec_l02Then.mono : ∀ a0 a1 k, LeO (spec_l02Then.f k a0 a1) (spec_l02Then.f (k + 1) a0 a1) := by
  intro a0 a1 k
  have ih0 := spec_l02Then.mono_l k
  unfold spec_l02Then.f
  repeat' first|exact ih0 _ _ _ _ _|exact lo_|refine LeO.ite ?_ ?_|refine LeO.bind ?_ (fun _ => ?_)
set_option maxHeartbeats 8000000 in
set_option maxRecDepth 100000 in
theorem spec_l02Then.calls (k : Nat) (A0 : Option Addr) (c0 : Nat) (l0 : List Int) (A1 : Option Addr) (c1 : Nat) (l1 : List Int) (r : List Int) (w : World) (hr0 : Kd.C (Kd.int .i64) w A0 l0.length l0) (hc0 : l0.length ≤ c0) (hr1 : Kd.C (Kd.int .i64) w A1 l1.length l1) (hc1 : l1.length ≤ c1) (h : spec_l02Then.f k l0 l1 = some r) :
    Calls Try.prog 102 #[.slice A0 l0.length c0, .slice A1 l1.length c1] w fun e w' => ∃ v0_ : Value, e = .returned (v0_) ∧ Kd.R (Kd.int .i64) 3 w' w.heap.size (fun _ => True) v0_ r ∧ Below w.heap.size w w' := by
  have HR0 := Aside0.mk hr0
  have HC0 := Aside0.mk hc0
  clear hr0 hc0
  have HR1 := Aside0.mk hr1
  have HC1 := Aside0.mk hc1
  clear hr1 hc1
  have HB := Aside0.mk (Below.refl w.heap.size w)
  have H := h
  unfold spec_l02Then.f at H
  clear h
  obtain ⟨y191, hy191⟩ : ∃ y_ : List Int, y_ = (([] : List Int)) := ⟨_, rfl⟩
  replace H : (spec_l02Then.l0 k l1 y191 l0 (l0.length : Int) 0) = some r := by first | (rw [hy191]; exact H) | exact H
  have Ny191 := Aside0.mk hy191
  clear hy191
  have H' := Aside0.mk H
  clear H
  go_enter Try.func102, Try.ntmps102
  go_wp2_with (first | ((with_reducible refine gate_dst (N := 8) rfl ?_); refine Kd.R_lit (Kd.int .i64) _ 3 ?hg (N := 8) ?hd (xs := ([] : List Int)) (inner := []) (ok := fun _ => True) (okp := fun _ => True) ?hr ?hp (fun _ hk => hk) trivial (Below.refl _ _) (Nat.le_refl _) (by simp) ?_; (case hd => rfl); (case hg => rfl); (case hr => first | (go_simp; done) | (go_simp; rfl)); (case hp => exact (Reps.none _ _)); intro v192 w3 ho4 hb hg_ hnew_; clear hg_ hnew_; (first | rw [← Ny191.out] at ho4 | (simp only [Int.reduceToNat] at ho4; rw [← Ny191.out] at ho4)); have HO193 := rl_ w ho4; replace HB := b1_ hb; clear hb ho4))
  go_loopg [5, 11] k (fun kq v5 v11 w' => ∃ (x5_1 : List Int) (x11_1 : Int), v11 = .int .i64 x11_1 ∧ Aside0 (spec_l02Then.l0 kq l1 x5_1 l0 (l0.length : Int) x11_1 = some r) ∧ Aside0 (kq ≤ k) ∧ Aside0 (Kd.R (Kd.int .i64) 3 w' w.heap.size (fun _ => True) v5 x5_1) ∧ Aside0 (Below w.heap.size w w'))
  case atStart => exact ⟨(y191), (0), qc_, H', ⟨Nat.le_refl _⟩, ⟨(rr_ HO193)⟩, ⟨hB_⟩⟩
  case round =>
    clear H'
    obtain ⟨x5_1, x11_1, rfl, HA, HK1, HO_5, HB⟩ := hrel
    cases gk with
    | zero => exact absurd HA.out (by simp [spec_l02Then.l0])
    | succ k1 =>
      have H := HA.out
      clear HA
      simp only [spec_l02Then.l0] at H
      by_cases c5 : x11_1 < (l0.length : Int)
      · rw [if_pos c5] at H
        have c5b0 := decide_eq_true c5
        clear c5
        have c6 := cp_ H
        replace H := ca_ H
        have c6b0 := decide_eq_true c6
        clear c6
        have c7 := cp_ H
        replace H := ca_ H
        have c7b0 := decide_eq_true c7
        clear c7
        have c8 := cp_ H
        replace H := ca_ H
        have c8b0 := decide_eq_true c8
        clear c8
        have c9 := cp_ H
        replace H := ca_ H
        have c9b0 := decide_eq_true c9
        clear c9
        have c10 := cp_ H
        replace H := ca_ H
        have LMc10 := Aside0.mk c10
        clear c10
        obtain ⟨y196, hy196⟩ : ∃ y_ : List Int, y_ = (x5_1 ++ [rd l1 (rd l0 x11_1)]) := ⟨_, rfl⟩
        replace H : (spec_l02Then.l0 k1 l1 y196 l0 (l0.length : Int) (wrap64 (x11_1 + 1))) = some r := by first | (rw [hy196]; exact H) | exact H
        have Ny196 := Aside0.mk hy196
        clear hy196
        have H' := Aside0.mk H
        clear H
        have p194 : 0 ≤ (x11_1 : Int) := of_decide_eq_true qe_
        have q194 : x11_1 < (l0.length : Int) := of_decide_eq_true qe_
        obtain ⟨ad194, e194, hx194_0⟩ := Kd.at_int HR0.out x11_1 p194 q194
        cases e194
        replace hx194_0 := (HB.out.cell (World.block_lt_of_cell? w _ hx194_0)).trans hx194_0
        replace p194 := eq_true p194
        replace q194 := eq_true q194
        have p195 : 0 ≤ ((rd l0 x11_1) : Int) := of_decide_eq_true qe_
        have q195 : (rd l0 x11_1) < (l1.length : Int) := of_decide_eq_true qe_
        obtain ⟨ad195, e195, hx195_0⟩ := Kd.at_int HR1.out (rd l0 x11_1) p195 q195
        cases e195
        replace hx195_0 := (HB.out.cell (World.block_lt_of_cell? w _ hx195_0)).trans hx195_0
        replace p195 := eq_true p195
        replace q195 := eq_true q195
        go_wp2_with (first | ((with_reducible refine gate_builtin (b := .append) (xs := #[.tmp 15, .tmp 20]) rfl ?_); at_builtin; refine Kd.R_append (Kd.int .i64) (w0 := w) w.heap.size rfl (.tmp 15) (.tmp 20) 22 3 (.int .i64 0) 8 rfl Try.underlying22 info3 rfl (by decide) (by omega) u5 x5_1 (rd l1 (rd l0 x11_1)) [.int .i64 (rd l1 (rd l0 x11_1))] (fun _ => True) (fun _ => False) rfl rfl ?aP (fun _ hk => hk.elim) ?aF ?aO ?aB ?aS ?aL ?_; (case aP => exact rfl); (case aB => exact hB_); (case aF => exact (fun _ _ => trivial)); (case aO => exact (rr_ HO_5)); (case aS => exact (below_size hB_)); (case aL => have := LMc10.out; omega); intro v197 w11 ho hb hg hat; rw [← Ny196.out] at ho; replace HB := Aside0.mk hb; have HO198 := Aside0.mk ho; clear HO_5; clear ho hb hg hat))
        go_roundg k1
        case measure => have := HK1.out; omega
        case rel => exact ⟨(y196), (wrap64 (x11_1 + 1)), qc_, H', ⟨by have := HK1.out; omega⟩, ⟨(rr_ HO198)⟩, ⟨hB_⟩⟩
      · rw [if_neg c5] at H
        have c5b0 := decide_eq_false c5
        clear c5
        obtain rfl := Option.some.inj H
        go_wp2
        go_ret
        exact ⟨_, qb_, (rr_ HO_5), hB_⟩
end Go.Proofs.Ytbdnellgioimbaa.A
end
section
namespace Go.Proofs.Ytbdnellgioimbaa.A
open Go.RowKit Go.Proofs.YtbdnellgioimbaaW.PrintWords Go.Proofs.YtbdnellgioimbaaW.PrintLast Go.Proofs.YtbdnellgioimbaaW.PrintMore
attribute [local go_sem] max2_int min2_int max_two min_two max_three min_three max_four min_four
set_option linter.unusedVariables false
set_option linter.unusedSimpArgs false
def spec_l04Around.f (k : Nat) (l0_0 : List Int) (l0_1 : List Int) : Option (List Int) := (spec_l02Then.f k l0_0 l0_1).bind fun t225 => ((spec_l02Inverse.f k l0_0).bind fun t228 => ((spec_l02Inverse.f k l0_1).bind fun t231 => ((spec_l02Then.f k t228 t231).bind fun t234 => ((spec_l02Then.f k t225 t234).bind fun t237 => (some t237)))))
theorem spec_l04Around.mono : ∀ a0 a1 k, LeO (spec_l04Around.f k a0 a1) (spec_l04Around.f (k + 1) a0 a1) := by
  intro a0 a1 k
  unfold spec_l04Around.f
  repeat' first|exact spec_l02Inverse.mono _ _|exact spec_l02Then.mono _ _ _|exact lo_|refine LeO.ite ?_ ?_|refine LeO.bind ?_ (fun _ => ?_)
def spec_l04Around.T2 : Bool × List (List Nat × List Nat) := (true, [([], []), ([0], [0]), ([1], [1]), ([], []), ([3], [3]), ([4, 2], [4]), ([2, 5, 5], [2, 5]), ([6, 6, 0, 1, 2, 3, 4, 5, 6], [6])])
def spec_l04Around.B2 : List Nat := [0, 1, 3, 0, 8, 31, 63, 127]
theorem spec_l04Around.tab2 : rtab .any (opsOf Try.f142 2) = spec_l04Around.T2 := by kernel_rfl
theorem spec_l04Around.bits2 : waitsOk spec_l04Around.T2.2 spec_l04Around.B2 = true := by kernel_rfl
set_option maxHeartbeats 8000000 in
set_option maxRecDepth 100000 in
theorem spec_l04Around.calls (k : Nat) (A0_0 : Option Addr) (c0_0 : Nat) (l0_0 : List Int) (A0_1 : Option Addr) (c0_1 : Nat) (l0_1 : List Int) (r : List Int) (w : World) (hr0_0 : Kd.C (Kd.int .i64) w A0_0 l0_0.length l0_0) (hc0_0 : l0_0.length ≤ c0_0) (hr0_1 : Kd.C (Kd.int .i64) w A0_1 l0_1.length l0_1) (hc0_1 : l0_1.length ≤ c0_1) (h : spec_l04Around.f k l0_0 l0_1 = some r) :
    Calls Try.prog 142 #[.agg #[.slice A0_0 l0_0.length c0_0, .slice A0_1 l0_1.length c0_1]] w fun e w' => ∃ v0_ : Value, e = .returned (v0_) ∧ Kd.R (Kd.int .i64) 3 w' w.heap.size (fun _ => True) v0_ r ∧ Below w.heap.size w w' := by
  have hu27 := Try.underlying27
  have HR0_0 := Aside0.mk hr0_0
  have HC0_0 := Aside0.mk hc0_0
  clear hr0_0 hc0_0
  have HR0_1 := Aside0.mk hr0_1
  have HC0_1 := Aside0.mk hc0_1
  clear hr0_1 hc0_1
  have HB := Aside0.mk (Below.refl w.heap.size w)
  have H := h
  unfold spec_l04Around.f at H
  clear h
  obtain ⟨t225, A2, H⟩ := bi_ H
  obtain ⟨t228, A3, H⟩ := bi_ H
  obtain ⟨t231, A4, H⟩ := bi_ H
  obtain ⟨t234, A5, H⟩ := bi_ H
  obtain ⟨t237, A6, H⟩ := bi_ H
  obtain rfl := Option.some.inj H
  go_enter Try.func142, Try.ntmps142
  try go_wp2_with (first | ((with_reducible refine gate_dst (N := 1) rfl ?_); refine bx_ 1 #[.slice A0_0 l0_0.length c0_0, .slice A0_1 l0_1.length c0_1] 27 ?_; intro gb224 hg w7 hbox hb; have BK224 := Aside0.mk hbox; have GW224 := gw_ w hg; have GE224 := GW224; replace HB := b1_ hb; clear hb hbox hg; obtain ⟨hcz8_0, hcz8_1, hfz8_0, hfz8_1⟩ := c2_ BK224) | ((with_reducible refine gate_callee (f := 102) rfl ?_); refine gL_ (some 9) Try.func102 #[.slice A0_0 l0_0.length c0_0, .slice A0_1 l0_1.length c0_1] rfl qa_ ?_; (with_reducible refine (spec_l02Then.calls k _ _ l0_0 _ _ l0_1 t225 _ (cb_ HR0_0) HC0_0.out (cb_ HR0_1) HC0_1.out A2.out).mono ?_); rintro e w9 ⟨v226, rfl, ho0, hb⟩; refine ⟨_, rfl, ?_⟩; have HO227 := rl_ w ho0; replace BK224 := bb_ BK224 hb; replace HB := b1_ hb; clear hb ho0))
  replace HO227 := Aside0.mk (Kd.R_drew HO227.out)
  replace BK224 := Aside0.mk (blk_drew BK224.out)
  replace HB := Aside0.mk (below_drew1 HB.out)
  refine start_ (n := 8) (S := fun w' => w'.cell? ⟨gb224, 0, none⟩ = some (.slice A0_0 l0_0.length c0_0) ∧ w'.cell? ⟨gb224, 1, none⟩ = some (.slice A0_1 l0_1.length c0_1)) (ds := []) (bl_ 8 0) (by kernel_rfl) rfl (by kernel_rfl) ⟨cz0_ BK224, cz1_ BK224⟩ (fun hHeld => ?_); refine with_tabW spec_l04Around.tab2 spec_l04Around.bits2 (fun HT_ HW_ => ?_)
  generalize w9.drew = w10 at HO227 BK224 HB hHeld ⊢
  refine pu_ 0 (some 10) (bl_ 8 1) HT_ ?_
  refine pu_ 3 (some 13) (bl_ 8 9) HT_ ?_
  refine ta_ 1 (some 11) (bl_ 8 11) HT_ HW_ hHeld ?_
  refine ta_ 4 (some 14) (bl_ 8 27) HT_ HW_ hHeld ?_
  refine on_ 2 (some 12) (bl_ 8 31) HT_ (fun K hK => ?_)
  refine gO_ Try.func116 #[.slice A0_0 l0_0.length c0_0] (by rfl) rfl rfl qa_ ?_
  with_reducible refine (spec_l02Inverse.calls k _ _ l0_0 t228 _ (cb_ HR0_0) HC0_0.out A3.out).mono ?_
  rintro e w11 ⟨v229, rfl, ho0, hb⟩
  refine ⟨_, rfl, ?_⟩
  have HO230 := Aside0.mk (Kd.R_lower (Kd.R_new' ho0 (Kd.R_lt (rr_ HO227))) (below_size hB_))
  replace HO227 := Aside0.mk (Kd.R_elder' (rr_ HO227) (Kd.R_base ho0) hb)
  replace BK224 := bb_ BK224 hb
  replace HB := b1_ hb
  clear hb ho0
  refine hK.out _ _ ⟨cz0_ BK224, cz1_ BK224⟩ (fun hHeld => ?_)
  clear hK K
  refine no_ (some 12) ?_
  refine on_ 5 (some 15) (bl_ 8 63) HT_ (fun K hK => ?_)
  refine gO_ Try.func116 #[.slice A0_1 l0_1.length c0_1] (by rfl) rfl rfl qa_ ?_
  with_reducible refine (spec_l02Inverse.calls k _ _ l0_1 t231 _ (cb_ HR0_1) HC0_1.out A4.out).mono ?_
  rintro e w12 ⟨v232, rfl, ho0, hb⟩
  refine ⟨_, rfl, ?_⟩
  have HO233 := Aside0.mk (Kd.R_lower (Kd.R_new' (Kd.R_new' ho0 (Kd.R_lt (rr_ HO227))) (Kd.R_lt (rr_ HO230))) (below_size hB_))
  replace HO227 := Aside0.mk (Kd.R_elder' (rr_ HO227) (Kd.R_base ho0) hb)
  replace HO230 := Aside0.mk (Kd.R_elder' (rr_ HO230) (Kd.R_base ho0) hb)
  replace BK224 := bb_ BK224 hb
  replace HB := b1_ hb
  clear hb ho0
  obtain ⟨Ao13, co13, eo13⟩ := Kd.R_slice HO230.out
  (first | subst eo13 | (injection eo13 with f1_ f2_ f3_; have f4_ := f1_.symm; have f5_ := f3_.symm; clear f1_ f2_ f3_; subst f4_; subst f5_))
  obtain ⟨Ao14, co14, eo14⟩ := Kd.R_slice HO233.out
  (first | subst eo14 | (injection eo14 with f1_ f2_ f3_; have f4_ := f1_.symm; have f5_ := f3_.symm; clear f1_ f2_ f3_; subst f4_; subst f5_))
  refine hK.out _ _ ⟨cz0_ BK224, cz1_ BK224⟩ (fun hHeld => ?_)
  clear hK K
  refine no_ (some 15) ?_
  refine on_ 6 (some 16) (bl_ 8 127) HT_ (fun K hK => ?_)
  refine gO_ Try.func102 #[.slice Ao13 t228.length co13, .slice Ao14 t231.length co14] (by rfl) rfl rfl qa_ ?_
  with_reducible refine (spec_l02Then.calls k _ _ t228 _ _ t231 t234 _ (cr_ HO230) ((Kd.R_reads' HO230.out).2.1) (cr_ HO233) ((Kd.R_reads' HO233.out).2.1) A5.out).mono ?_
  rintro e w15 ⟨v235, rfl, ho0, hb⟩
  refine ⟨_, rfl, ?_⟩
  have HO236 := Aside0.mk (Kd.R_lower (Kd.R_new' (Kd.R_new' (Kd.R_new' ho0 (Kd.R_lt (rr_ HO227))) (Kd.R_lt (rr_ HO230))) (Kd.R_lt (rr_ HO233))) (below_size hB_))
  replace HO227 := Aside0.mk (Kd.R_elder' (rr_ HO227) (Kd.R_base ho0) hb)
  replace HO230 := Aside0.mk (Kd.R_elder' (rr_ HO230) (Kd.R_base ho0) hb)
  replace HO233 := Aside0.mk (Kd.R_elder' (rr_ HO233) (Kd.R_base ho0) hb)
  replace BK224 := bb_ BK224 hb
  replace HB := b1_ hb
  clear hb ho0
  refine hK.out _ _ ⟨cz0_ BK224, cz1_ BK224⟩ (fun hHeld => ?_)
  clear hK K
  refine no_ (some 16) ?_
  refine pu_ 7 (some 4) (bl_ 8 255) HT_ ?_
  refine done_ (done_of HT_.out (by kernel_rfl)) ?_
  obtain ⟨Ao16, co16, eo16⟩ := Kd.R_slice HO227.out
  subst eo16
  obtain ⟨Ao17, co17, eo17⟩ := Kd.R_slice HO236.out
  subst eo17
  try go_wp2_with (first | ((with_reducible refine gate_callee (f := 102) rfl ?_); refine gL_ (some 19) Try.func102 #[.slice Ao16 t225.length co16, .slice Ao17 t234.length co17] rfl qa_ ?_; (with_reducible refine (spec_l02Then.calls k _ _ t225 _ _ t234 t237 _ (cr_ HO227) ((Kd.R_reads' HO227.out).2.1) (cr_ HO236) ((Kd.R_reads' HO236.out).2.1) A6.out).mono ?_); rintro e w18 ⟨v238, rfl, ho0, hb⟩; refine ⟨_, rfl, ?_⟩; have HO239 := Aside0.mk (Kd.R_lower (Kd.R_new' (Kd.R_new' (Kd.R_new' (Kd.R_new' ho0 (Kd.R_lt (rr_ HO227))) (Kd.R_lt (rr_ HO230))) (Kd.R_lt (rr_ HO233))) (Kd.R_lt (rr_ HO236))) (below_size hB_)); replace HO227 := Aside0.mk (Kd.R_elder' (rr_ HO227) (Kd.R_base ho0) hb); replace HO230 := Aside0.mk (Kd.R_elder' (rr_ HO230) (Kd.R_base ho0) hb); replace HO233 := Aside0.mk (Kd.R_elder' (rr_ HO233) (Kd.R_base ho0) hb); replace HO236 := Aside0.mk (Kd.R_elder' (rr_ HO236) (Kd.R_base ho0) hb); replace BK224 := bb_ BK224 hb; replace HB := b1_ hb; clear hb ho0))
  go_ret
  exact ⟨_, qb_, (rw_ (Kd.R_mono HO239.out (fun _ hk => trivial))), hB_⟩
end Go.Proofs.Ytbdnellgioimbaa.A
end
section
namespace Go.Proofs.Ytbdnellgioimbaa.A
open Go.RowKit Go.Proofs.YtbdnellgioimbaaW.PrintWords Go.Proofs.YtbdnellgioimbaaW.PrintLast Go.Proofs.YtbdnellgioimbaaW.PrintMore
attribute [local go_sem] max2_int min2_int max_two min_two max_three min_three max_four min_four
set_option linter.unusedVariables false
set_option linter.unusedSimpArgs false
def spec_l08Row.l0 : Nat → Int → List (List Int) → Int → Int → Option (Int)
  | 0, _, _, _, _ => none
  | k + 1, x1, x7, x8, x9 => if x9 < x8 then (if 0 ≤ x9 then (if x9 < (x7.length : Int) then ((spec_l02Has.f k (rd_L1 x7 x9) x1).bind fun t571 => (if t571 = true then (some x9) else (spec_l08Row.l0 k x1 x7 x8 (wrap64 (x9 + 1))))) else (none)) else (none)) else (some (-1))
def spec_l08Row.f (k : Nat) (l0 : List (List Int)) (a1 : Int) : Option (Int) := spec_l08Row.l0 k a1 l0 (l0.length : Int) 0
theorem spec_l08Row.mono_l : ∀ k, (∀ y0 y1 y2 y3, LeO (spec_l08Row.l0 k y0 y1 y2 y3) (spec_l08Row.l0 (k + 1) y0 y1 y2 y3))
  | 0 => fun _ _ _ _ r h => by simp [spec_l08Row.l0] at h
  | k + 1 => by
    have ih0 := spec_l08Row.mono_l k
    · intro y0 y1 y2 y3
      unfold spec_l08Row.l0
      repeat' first|exact ih0 _ _ _ _|exact spec_l02Has.mono _ _ _|exact lo_|refine LeO.ite ?_ ?_|refine LeO.bind ?_ (fun _ => ?_)
theorem spec_l08Row.mono : ∀ a0 a1 k, LeO (spec_l08Row.f k a0 a1) (spec_l08Row.f (k + 1) a0 a1) := by
  intro a0 a1 k
  have ih0 := spec_l08Row.mono_l k
  unfold spec_l08Row.f
  repeat' first|exact ih0 _ _ _ _|exact spec_l02Has.mono _ _ _|exact lo_|refine LeO.ite ?_ ?_|refine LeO.bind ?_ (fun _ => ?_)
set_option maxHeartbeats 8000000 in
set_option maxRecDepth 100000 in
theorem spec_l08Row.calls (k : Nat) (A0 : Option Addr) (c0 : Nat) (l0 : List (List Int)) (a1 : Int) (r : Int) (w : World) (hr0 : Kd.C (Kd.slice 3 (Kd.int .i64)) w A0 l0.length l0) (hc0 : l0.length ≤ c0) (h : spec_l08Row.f k l0 a1 = some r) :
    Calls Try.prog 143 #[.slice A0 l0.length c0, .int .i64 a1] w fun e w' => e = .returned (.int .i64 r) ∧ Drawn0 w w' := by
  have HR0 := Aside0.mk hr0
  have HC0 := Aside0.mk hc0
  clear hr0 hc0
  have H := h
  unfold spec_l08Row.f at H
  clear h
  have H' := Aside0.mk H
  clear H
  go_enter Try.func143, Try.ntmps143
  go_wp2
  go_loopg [9] k (fun kq v9 w' => ∃ (x9_1 : Int), v9 = .int .i64 x9_1 ∧ Aside0 (spec_l08Row.l0 kq a1 l0 (l0.length : Int) x9_1 = some r) ∧ Aside0 (kq ≤ k) ∧ Drawn0 w w')
  case atStart => exact ⟨(0), qc_, H', ⟨Nat.le_refl _⟩, by repeat (first | exact Drawn0.refl _ | apply Drawn0.step)⟩
  case round =>
    clear H'
    obtain ⟨x9_1, rfl, HA, HK1, ⟨m1, rfl⟩⟩ := hrel
    cases gk with
    | zero => exact absurd HA.out (by simp [spec_l08Row.l0])
    | succ k1 =>
      have H := HA.out
      clear HA
      simp only [spec_l08Row.l0] at H
      by_cases c3 : x9_1 < (l0.length : Int)
      · rw [if_pos c3] at H
        have c3b0 := decide_eq_true c3
        clear c3
        have c4 := cp_ H
        replace H := ca_ H
        have c4b0 := decide_eq_true c4
        clear c4
        have c5 := cp_ H
        replace H := ca_ H
        have c5b0 := decide_eq_true c5
        clear c5
        obtain ⟨t571, A6, H⟩ := bi_ H
        by_cases c7 : t571 = true
        · subst c7
          rw [if_pos rfl] at H
          obtain rfl := Option.some.inj H
          have p570 : 0 ≤ (x9_1 : Int) := of_decide_eq_true qe_
          have q570 : x9_1 < (l0.length : Int) := of_decide_eq_true qe_
          obtain ⟨ad570, A570_0, c570_0, e570, hx570_0, hl570_0, hi570_0⟩ := at_L1 HR0.out x9_1 p570 q570
          cases e570
          have HR570_0 := Aside0.mk hi570_0
          have HC570_0 := Aside0.mk hl570_0
          clear hi570_0 hl570_0
          replace p570 := eq_true p570
          replace q570 := eq_true q570
          go_wp2_with (first | ((with_reducible refine gate_callee (f := 155) rfl ?_); refine gL_ (some 16) Try.func155 #[.slice A570_0 (rd_L1 l0 x9_1).length c570_0, .int .i64 a1] rfl qa_ ?_; (with_reducible refine (spec_l02Has.calls k1 _ _ (rd_L1 l0 x9_1) a1 true _ (cc_ HR570_0) HC570_0.out A6.out).mono ?_); rintro e w' ⟨rfl, ⟨nd, rfl⟩⟩; refine ⟨_, rfl, ?_⟩))
          go_ret
          exact ⟨qc_, by repeat (first | exact Drawn0.refl _ | apply Drawn0.step)⟩
        · replace c7 := Bool.eq_false_iff.mpr c7
          subst c7
          have H1 : (spec_l08Row.l0 k1 a1 l0 (l0.length : Int) (wrap64 (x9_1 + 1))) = some r := by rw [if_neg (show ¬ (false = true) by decide)] at H; exact H
          clear H
          have H := H1
          clear H1
          have H' := Aside0.mk H
          clear H
          have p570 : 0 ≤ (x9_1 : Int) := of_decide_eq_true qe_
          have q570 : x9_1 < (l0.length : Int) := of_decide_eq_true qe_
          obtain ⟨ad570, A570_0, c570_0, e570, hx570_0, hl570_0, hi570_0⟩ := at_L1 HR0.out x9_1 p570 q570
          cases e570
          have HR570_0 := Aside0.mk hi570_0
          have HC570_0 := Aside0.mk hl570_0
          clear hi570_0 hl570_0
          replace p570 := eq_true p570
          replace q570 := eq_true q570
          go_wp2_with (first | ((with_reducible refine gate_callee (f := 155) rfl ?_); refine gL_ (some 16) Try.func155 #[.slice A570_0 (rd_L1 l0 x9_1).length c570_0, .int .i64 a1] rfl qa_ ?_; (with_reducible refine (spec_l02Has.calls k1 _ _ (rd_L1 l0 x9_1) a1 false _ (cc_ HR570_0) HC570_0.out A6.out).mono ?_); rintro e w' ⟨rfl, ⟨nd, rfl⟩⟩; refine ⟨_, rfl, ?_⟩))
          go_roundg k1
          case measure => have := HK1.out; omega
          case rel => exact ⟨(wrap64 (x9_1 + 1)), qc_, H', ⟨by have := HK1.out; omega⟩, by repeat (first | exact Drawn0.refl _ | apply Drawn0.step)⟩
      · rw [if_neg c3] at H
        have c3b0 := decide_eq_false c3
        clear c3
        obtain rfl := Option.some.inj H
        go_wp2
        go_ret
        exact ⟨qc_, by repeat (first | exact Drawn0.refl _ | apply Drawn0.step)⟩
end Go.Proofs.Ytbdnellgioimbaa.A
end
section
namespace Go.Proofs.Ytbdnellgioimbaa.A
open Go.RowKit Go.Proofs.YtbdnellgioimbaaW.PrintWords Go.Proofs.YtbdnellgioimbaaW.PrintLast Go.Proofs.YtbdnellgioimbaaW.PrintMore
attribute [local go_sem] max2_int min2_int max_two min_two max_three min_three max_four min_four
set_option linter.unusedVariables false
set_option linter.unusedSimpArgs false
mutual
def spec_l08Above.l0 : Nat → List (List Int) → List Int → List Int → List (List Int) → Int → Int → List Int → List Int → Option (List Int)
  | 0, _, _, _, _, _, _, _, _ => none
  | k + 1, x1, x5, x6, x15, x16, x17, x573000, x573001 => if x17 < x16 then (if 0 ≤ x17 then (if x17 < (x15.length : Int) then (if 0 < ((rd_L1 x15 x17).length : Int) then (if 0 ≤ (rd (rd_L1 x15 x17) 0) then (if (rd (rd_L1 x15 x17) 0) < (x573001.length : Int) then ((spec_l08Row.f k x1 (rd x573001 (rd (rd_L1 x15 x17) 0))).bind fun t582 => (spec_l08Above.l1 k x1 x5 x6 t582 x15 x16 x17 (rd_L1 x15 x17) ((rd_L1 x15 x17).length : Int) 0 x573000 x573001)) else (none)) else (none)) else (none)) else (none)) else (none)) else (some x6)
def spec_l08Above.l1 : Nat → List (List Int) → List Int → List Int → Int → List (List Int) → Int → Int → List Int → Int → Int → List Int → List Int → Option (List Int)
  | 0, _, _, _, _, _, _, _, _, _, _, _, _ => none
  | k + 1, x1, x5, x6, x9, x15, x16, x17, x30, x31, x32, x573000, x573001 => if x32 < x31 then (if 0 ≤ x32 then (if x32 < (x30.length : Int) then (if 0 ≤ (rd x30 x32) then (if (rd x30 x32) < (x5.length : Int) then (if (rd x5 (rd x30 x32)) = (rd x30 x32) then (spec_l08Above.l1 k x1 x5 x6 x9 x15 x16 x17 x30 x31 (wrap64 (x32 + 1)) x573000 x573001) else (spec_l08Above.l1 k x1 x5 x6 (-1) x15 x16 x17 x30 x31 (wrap64 (x32 + 1)) x573000 x573001)) else (none)) else (none)) else (none)) else (none)) else (if x6.length < 17592186044416 then (spec_l08Above.l0 k x1 x5 (x6 ++ [x9]) x15 x16 (wrap64 (x17 + 1)) x573000 x573001) else (none))
end
def spec_l08Above.f (k : Nat) (l0_0 : List Int) (l0_1 : List Int) (l1 : List (List Int)) : Option (List Int) := (spec_l04Around.f k l0_0 l0_1).bind fun t573 => (spec_l08Above.l0 k l1 t573 (([] : List Int)) l1 (l1.length : Int) 0 l0_0 l0_1)
theorem spec_l08Above.mono_l : ∀ k, (∀ y0 y1 y2 y3 y4 y5 y6 y7, LeO (spec_l08Above.l0 k y0 y1 y2 y3 y4 y5 y6 y7) (spec_l08Above.l0 (k + 1) y0 y1 y2 y3 y4 y5 y6 y7)) ∧ (∀ y0 y1 y2 y3 y4 y5 y6 y7 y8 y9 y10 y11, LeO (spec_l08Above.l1 k y0 y1 y2 y3 y4 y5 y6 y7 y8 y9 y10 y11) (spec_l08Above.l1 (k + 1) y0 y1 y2 y3 y4 y5 y6 y7 y8 y9 y10 y11))
  | 0 => ⟨fun _ _ _ _ _ _ _ _ r h => by simp [spec_l08Above.l0] at h, fun _ _ _ _ _ _ _ _ _ _ _ _ r h => by simp [spec_l08Above.l1] at h⟩
  | k + 1 => by
    obtain ⟨ih0, ih1⟩ := spec_l08Above.mono_l k
    refine ⟨?_, ?_⟩
    · intro y0 y1 y2 y3 y4 y5 y6 y7
      unfold spec_l08Above.l0
      repeat' first|exact ih0 _ _ _ _ _ _ _ _|exact ih1 _ _ _ _ _ _ _ _ _ _ _ _|exact spec_l04Around.mono _ _ _|exact spec_l08Row.mono _ _ _|exact lo_|refine LeO.ite ?_ ?_|refine LeO.bind ?_ (fun _ => ?_)
    · intro y0 y1 y2 y3 y4 y5 y6 y7 y8 y9 y10 y11
      unfold spec_l08Above.l1
      repeat' first|exact ih0 _ _ _ _ _ _ _ _|exact ih1 _ _ _ _ _ _ _ _ _ _ _ _|exact spec_l04Around.mono _ _ _|exact spec_l08Row.mono _ _ _|exact lo_|refine LeO.ite ?_ ?_|refine LeO.bind ?_ (fun _ => ?_)
theorem spec_l08Above.mono : ∀ a0 a1 a2 k, LeO (spec_l08Above.f k a0 a1 a2) (spec_l08Above.f (k + 1) a0 a1 a2) := by
  intro a0 a1 a2 k
  obtain ⟨ih0, ih1⟩ := spec_l08Above.mono_l k
  unfold spec_l08Above.f
  repeat' first|exact ih0 _ _ _ _ _ _ _ _|exact ih1 _ _ _ _ _ _ _ _ _ _ _ _|exact spec_l04Around.mono _ _ _|exact spec_l08Row.mono _ _ _|exact lo_|refine LeO.ite ?_ ?_|refine LeO.bind ?_ (fun _ => ?_)
set_option maxHeartbeats 8000000 in
set_option maxRecDepth 100000 in
theorem spec_l08Above.calls (k : Nat) (A0_0 : Option Addr) (c0_0 : Nat) (l0_0 : List Int) (A0_1 : Option Addr) (c0_1 : Nat) (l0_1 : List Int) (A1 : Option Addr) (c1 : Nat) (l1 : List (List Int)) (r : List Int) (w : World) (hr0_0 : Kd.C (Kd.int .i64) w A0_0 l0_0.length l0_0) (hc0_0 : l0_0.length ≤ c0_0) (hr0_1 : Kd.C (Kd.int .i64) w A0_1 l0_1.length l0_1) (hc0_1 : l0_1.length ≤ c0_1) (hr1 : Kd.C (Kd.slice 3 (Kd.int .i64)) w A1 l1.length l1) (hc1 : l1.length ≤ c1) (h : spec_l08Above.f k l0_0 l0_1 l1 = some r) :
    Calls Try.prog 112 #[.agg #[.slice A0_0 l0_0.length c0_0, .slice A0_1 l0_1.length c0_1], .slice A1 l1.length c1] w fun e w' => ∃ v0_ : Value, e = .returned (v0_) ∧ Kd.R (Kd.int .i64) 3 w' w.heap.size (fun _ => True) v0_ r ∧ Below w.heap.size w w' := by
  have hu27 := Try.underlying27
  have HR0_0 := Aside0.mk hr0_0
  have HC0_0 := Aside0.mk hc0_0
  clear hr0_0 hc0_0
  have HR0_1 := Aside0.mk hr0_1
  have HC0_1 := Aside0.mk hc0_1
  clear hr0_1 hc0_1
  have HR1 := Aside0.mk hr1
  have HC1 := Aside0.mk hc1
  clear hr1 hc1
  have HB := Aside0.mk (Below.refl w.heap.size w)
  have H := h
  unfold spec_l08Above.f at H
  clear h
  obtain ⟨t573, A3, H⟩ := bi_ H
  obtain ⟨y576, hy576⟩ : ∃ y_ : List Int, y_ = (([] : List Int)) := ⟨_, rfl⟩
  replace H : (spec_l08Above.l0 k l1 t573 y576 l1 (l1.length : Int) 0 l0_0 l0_1) = some r := by first | (rw [hy576]; exact H) | exact H
  have Ny576 := Aside0.mk hy576
  clear hy576
  have H' := Aside0.mk H
  clear H
  go_enter Try.func112, Try.ntmps112
  go_wp2_with (first | ((with_reducible refine gate_dst (N := 2) rfl ?_); refine bx_ 2 #[.slice A0_0 l0_0.length c0_0, .slice A0_1 l0_1.length c0_1] 27 ?_; intro gb572 hg w4 hbox hb; have BK572 := Aside0.mk hbox; have GW572 := gw_ w hg; have GE572 := GW572; replace HB := b1_ hb; clear hb hbox hg; obtain ⟨hcz5_0, hcz5_1, hfz5_0, hfz5_1⟩ := c2_ BK572) | (go_at_call 142; (with_reducible refine (spec_l04Around.calls k _ _ l0_0 _ _ l0_1 t573 _ (cb_ HR0_0) HC0_0.out (cb_ HR0_1) HC0_1.out A3.out).mono ?_); rintro e w6 ⟨v574, rfl, ho0, hb⟩; have HO575 := rl_ w ho0; replace BK572 := bb_ BK572 hb; replace HB := b1_ hb; clear hb ho0) | ((with_reducible refine gate_dst (N := 14) rfl ?_); refine Kd.R_lit (Kd.int .i64) _ 3 ?hg (N := 14) ?hd (xs := ([] : List Int)) (inner := []) (ok := fun _ => True) (okp := fun _ => True) ?hr ?hp (fun _ hk => hk) trivial (Below.refl _ _) (Nat.le_refl _) (by simp) ?_; (case hd => rfl); (case hg => rfl); (case hr => first | (go_simp; done) | (go_simp; rfl)); (case hp => exact (Reps.none _ _)); intro v577 w7 ho8 hb hg_ hnew_; clear hg_ hnew_; (first | rw [← Ny576.out] at ho8 | (simp only [Int.reduceToNat] at ho8; rw [← Ny576.out] at ho8)); have HO578 := Aside0.mk (Kd.R_lower (Kd.R_new' ho8 (Kd.R_lt (rr_ HO575))) (below_size hB_)); replace HO575 := Aside0.mk (Kd.R_elder' (rr_ HO575) (Kd.R_base ho8) hb); replace BK572 := bb_ BK572 hb; replace HB := b1_ hb; clear hb ho8))
  repeat (go_quiet (first | ((with_reducible refine gate_dst (N := 2) rfl ?_); refine bx_ 2 #[.slice A0_0 l0_0.length c0_0, .slice A0_1 l0_1.length c0_1] 27 ?_; intro gb572 hg w4 hbox hb; have BK572 := Aside0.mk hbox; have GW572 := gw_ w hg; have GE572 := GW572; replace HB := b1_ hb; clear hb hbox hg; obtain ⟨hcz5_0, hcz5_1, hfz5_0, hfz5_1⟩ := c2_ BK572) | (go_at_call 142; (with_reducible refine (spec_l04Around.calls k _ _ l0_0 _ _ l0_1 t573 _ (cb_ HR0_0) HC0_0.out (cb_ HR0_1) HC0_1.out A3.out).mono ?_); rintro e w6 ⟨v574, rfl, ho0, hb⟩; have HO575 := rl_ w ho0; replace BK572 := bb_ BK572 hb; replace HB := b1_ hb; clear hb ho0) | ((with_reducible refine gate_dst (N := 14) rfl ?_); refine Kd.R_lit (Kd.int .i64) _ 3 ?hg (N := 14) ?hd (xs := ([] : List Int)) (inner := []) (ok := fun _ => True) (okp := fun _ => True) ?hr ?hp (fun _ hk => hk) trivial (Below.refl _ _) (Nat.le_refl _) (by simp) ?_; (case hd => rfl); (case hg => rfl); (case hr => first | (go_simp; done) | (go_simp; rfl)); (case hp => exact (Reps.none _ _)); intro v577 w7 ho8 hb hg_ hnew_; clear hg_ hnew_; (first | rw [← Ny576.out] at ho8 | (simp only [Int.reduceToNat] at ho8; rw [← Ny576.out] at ho8)); have HO578 := Aside0.mk (Kd.R_lower (Kd.R_new' ho8 (Kd.R_lt (rr_ HO575))) (below_size hB_)); replace HO575 := Aside0.mk (Kd.R_elder' (rr_ HO575) (Kd.R_base ho8) hb); replace BK572 := bb_ BK572 hb; replace HB := b1_ hb; clear hb ho8)); try go_wp2_with (first | ((with_reducible refine gate_dst (N := 2) rfl ?_); refine bx_ 2 #[.slice A0_0 l0_0.length c0_0, .slice A0_1 l0_1.length c0_1] 27 ?_; intro gb572 hg w4 hbox hb; have BK572 := Aside0.mk hbox; have GW572 := gw_ w hg; have GE572 := GW572; replace HB := b1_ hb; clear hb hbox hg; obtain ⟨hcz5_0, hcz5_1, hfz5_0, hfz5_1⟩ := c2_ BK572) | (go_at_call 142; (with_reducible refine (spec_l04Around.calls k _ _ l0_0 _ _ l0_1 t573 _ (cb_ HR0_0) HC0_0.out (cb_ HR0_1) HC0_1.out A3.out).mono ?_); rintro e w6 ⟨v574, rfl, ho0, hb⟩; have HO575 := rl_ w ho0; replace BK572 := bb_ BK572 hb; replace HB := b1_ hb; clear hb ho0) | ((with_reducible refine gate_dst (N := 14) rfl ?_); refine Kd.R_lit (Kd.int .i64) _ 3 ?hg (N := 14) ?hd (xs := ([] : List Int)) (inner := []) (ok := fun _ => True) (okp := fun _ => True) ?hr ?hp (fun _ hk => hk) trivial (Below.refl _ _) (Nat.le_refl _) (by simp) ?_; (case hd => rfl); (case hg => rfl); (case hr => first | (go_simp; done) | (go_simp; rfl)); (case hp => exact (Reps.none _ _)); intro v577 w7 ho8 hb hg_ hnew_; clear hg_ hnew_; (first | rw [← Ny576.out] at ho8 | (simp only [Int.reduceToNat] at ho8; rw [← Ny576.out] at ho8)); have HO578 := Aside0.mk (Kd.R_lower (Kd.R_new' ho8 (Kd.R_lt (rr_ HO575))) (below_size hB_)); replace HO575 := Aside0.mk (Kd.R_elder' (rr_ HO575) (Kd.R_base ho8) hb); replace BK572 := bb_ BK572 hb; replace HB := b1_ hb; clear hb ho8)))
  go_loopg [6, 17] k (fun kq v6 v17 w' => ∃ (x6_1 : List Int) (x17_1 : Int), v17 = .int .i64 x17_1 ∧ Aside0 (spec_l08Above.l0 kq l1 t573 x6_1 l1 (l1.length : Int) x17_1 l0_0 l0_1 = some r) ∧ Aside0 (kq ≤ k) ∧ Aside0 (Kd.R (Kd.int .i64) 3 w' w.heap.size (fun k_ => some k_ ≠ (v6 : Value).ownBlock) v574 t573) ∧ Aside0 (Kd.R (Kd.int .i64) 3 w' w.heap.size (fun k_ => some k_ ≠ (v574 : Value).ownBlock) v6 x6_1) ∧ Aside0 (w'.heap[gb572]? = some (.cells #[(.slice A0_0 l0_0.length c0_0), (.slice A0_1 l0_1.length c0_1)] 27 (0, 0))) ∧ Aside0 (Below w.heap.size w w'))
  case atStart => exact ⟨(y576), (0), qc_, H', ⟨Nat.le_refl _⟩, ⟨(rw_ (Kd.R_mono HO575.out (fun _ hk => hk.2)))⟩, ⟨(rw_ (Kd.R_mono HO578.out (fun _ hk => hk.2)))⟩, ⟨(kk_ BK572)⟩, ⟨hB_⟩⟩
  case round =>
    clear H'
    obtain ⟨x6_1, x17_1, rfl, HA, HK1, HO_5, HO_6, BK572, HB⟩ := hrel
    cases gk with
    | zero => exact absurd HA.out (by simp [spec_l08Above.l0])
    | succ k1 =>
      have H := HA.out
      clear HA
      simp only [spec_l08Above.l0] at H
      by_cases c9 : x17_1 < (l1.length : Int)
      · rw [if_pos c9] at H
        have c9b0 := decide_eq_true c9
        clear c9
        have c10 := cp_ H
        replace H := ca_ H
        have c10b0 := decide_eq_true c10
        clear c10
        have c11 := cp_ H
        replace H := ca_ H
        have c11b0 := decide_eq_true c11
        clear c11
        have c12 := cp_ H
        replace H := ca_ H
        have c12b0 := decide_eq_true c12
        have c12b1 : decide (0 < (rd_L1 l1 x17_1).length) = true := decide_eq_true (by omega)
        clear c12
        have c13 := cp_ H
        replace H := ca_ H
        have c13b0 := decide_eq_true c13
        clear c13
        have c14 := cp_ H
        replace H := ca_ H
        have c14b0 := decide_eq_true c14
        clear c14
        obtain ⟨t582, A15, H⟩ := bi_ H
        have H' := Aside0.mk H
        clear H
        have p579 : 0 ≤ (x17_1 : Int) := of_decide_eq_true qe_
        have q579 : x17_1 < (l1.length : Int) := of_decide_eq_true qe_
        obtain ⟨ad579, A579_0, c579_0, e579, hx579_0, hl579_0, hi579_0⟩ := at_L1 HR1.out x17_1 p579 q579
        cases e579
        replace hx579_0 := (HB.out.cell (World.block_lt_of_cell? w _ hx579_0)).trans hx579_0
        have HR579_0 := Aside0.mk hi579_0
        have HC579_0 := Aside0.mk hl579_0
        clear hi579_0 hl579_0
        replace p579 := eq_true p579
        replace q579 := eq_true q579
        obtain ⟨hcz16_0, hcz16_1, hfz16_0, hfz16_1⟩ := c2_ BK572
        have p580 : 0 ≤ (0 : Int) := (by omega)
        have q580 : 0 < ((rd_L1 l1 x17_1).length : Int) := of_decide_eq_true qe_
        obtain ⟨ad580, e580, hx580_0⟩ := Kd.at_int HR579_0.out 0 p580 q580
        cases e580
        have qi580 : (0 < (rd_L1 l1 x17_1).length) = True := eq_true (by omega)
        (try rw [show ((0 : Int)).toNat = 0 from rfl] at hx580_0)
        (try rw [Addr.add_zero'] at hx580_0)
        replace hx580_0 := (HB.out.cell (World.block_lt_of_cell? w _ hx580_0)).trans hx580_0
        replace p580 := eq_true p580
        replace q580 := eq_true q580
        have p581 : 0 ≤ ((rd (rd_L1 l1 x17_1) 0) : Int) := of_decide_eq_true qe_
        have q581 : (rd (rd_L1 l1 x17_1) 0) < (l0_1.length : Int) := of_decide_eq_true qe_
        obtain ⟨ad581, e581, hx581_0⟩ := Kd.at_int HR0_1.out (rd (rd_L1 l1 x17_1) 0) p581 q581
        cases e581
        replace hx581_0 := (HB.out.cell (World.block_lt_of_cell? w _ hx581_0)).trans hx581_0
        replace p581 := eq_true p581
        replace q581 := eq_true q581
        go_wp2_with (first | (go_at_call 143; (with_reducible refine (spec_l08Row.calls k1 _ _ l1 (rd l0_1 (rd (rd_L1 l1 x17_1) 0)) t582 _ (cb_ HR1) HC1.out A15.out).mono ?_); rintro e w' ⟨rfl, ⟨nd, rfl⟩⟩; (try first | exact ⟨rfl, _, World.drewN_drewN _ _ _⟩ | exact ⟨rfl, _, Eq.trans (World.drewN_drewN _ _ _) (congrArg (World.drewN _) (Nat.add_assoc _ _ _))⟩)))
        repeat (go_quiet (first | (go_at_call 143; (with_reducible refine (spec_l08Row.calls k1 _ _ l1 (rd l0_1 (rd (rd_L1 l1 x17_1) 0)) t582 _ (cb_ HR1) HC1.out A15.out).mono ?_); rintro e w' ⟨rfl, ⟨nd, rfl⟩⟩; (try first | exact ⟨rfl, _, World.drewN_drewN _ _ _⟩ | exact ⟨rfl, _, Eq.trans (World.drewN_drewN _ _ _) (congrArg (World.drewN _) (Nat.add_assoc _ _ _))⟩))); try go_wp2_with (first | (go_at_call 143; (with_reducible refine (spec_l08Row.calls k1 _ _ l1 (rd l0_1 (rd (rd_L1 l1 x17_1) 0)) t582 _ (cb_ HR1) HC1.out A15.out).mono ?_); rintro e w' ⟨rfl, ⟨nd, rfl⟩⟩; (try first | exact ⟨rfl, _, World.drewN_drewN _ _ _⟩ | exact ⟨rfl, _, Eq.trans (World.drewN_drewN _ _ _) (congrArg (World.drewN _) (Nat.add_assoc _ _ _))⟩))))
        go_loopg [9, 32] k1 (fun kq v9 v32 w' => ∃ (x9_2 : Int) (x32_2 : Int), v9 = .int .i64 x9_2 ∧ v32 = .int .i64 x32_2 ∧ Aside0 (spec_l08Above.l1 kq l1 t573 x6_1 x9_2 l1 (l1.length : Int) x17_1 (rd_L1 l1 x17_1) ((rd_L1 l1 x17_1).length : Int) x32_2 l0_0 l0_1 = some r) ∧ Aside0 (kq ≤ k1) ∧ Aside0 (Kd.R (Kd.int .i64) 3 w' w.heap.size (fun k_ => some k_ ≠ (u6 : Value).ownBlock) v574 t573) ∧ Aside0 (Kd.R (Kd.int .i64) 3 w' w.heap.size (fun k_ => some k_ ≠ (v574 : Value).ownBlock) u6 x6_1) ∧ Aside0 (w'.heap[gb572]? = some (.cells #[(.slice A0_0 l0_0.length c0_0), (.slice (some ad581) l0_1.length c0_1)] 27 (0, 0))) ∧ Aside0 (Below w.heap.size w w'))
        case atStart => exact ⟨(t582), (0), qc_, qc_, H', ⟨Nat.le_refl _⟩, ⟨(rr_ HO_5)⟩, ⟨(rr_ HO_6)⟩, ⟨(kk_ BK572)⟩, ⟨hB_⟩⟩
        case round =>
          clear H'
          obtain ⟨x9_2, x32_2, rfl, rfl, HA, HK2, HO_5, HO_6, BK572, HB⟩ := hrel
          cases gk with
          | zero => exact absurd HA.out (by simp [spec_l08Above.l1])
          | succ k2 =>
            have H := HA.out
            clear HA
            simp only [spec_l08Above.l1] at H
            by_cases c17 : x32_2 < ((rd_L1 l1 x17_1).length : Int)
            · rw [if_pos c17] at H
              have c17b0 := decide_eq_true c17
              clear c17
              have c18 := cp_ H
              replace H := ca_ H
              have c18b0 := decide_eq_true c18
              clear c18
              have c19 := cp_ H
              replace H := ca_ H
              have c19b0 := decide_eq_true c19
              clear c19
              have c20 := cp_ H
              replace H := ca_ H
              have c20b0 := decide_eq_true c20
              clear c20
              have c21 := cp_ H
              replace H := ca_ H
              have c21b0 := decide_eq_true c21
              clear c21
              by_cases c22 : (rd t573 (rd (rd_L1 l1 x17_1) x32_2)) = (rd (rd_L1 l1 x17_1) x32_2)
              · rw [if_pos c22] at H
                have c22b0 : ((rd t573 (rd (rd_L1 l1 x17_1) x32_2)) == (rd (rd_L1 l1 x17_1) x32_2)) = true := beq_iff_eq.mpr c22
                have c22b1 : ((rd t573 (rd (rd_L1 l1 x17_1) x32_2)) != (rd (rd_L1 l1 x17_1) x32_2)) = false := bne_eq_false_iff_eq.mpr c22
                clear c22
                have H' := Aside0.mk H
                clear H
                have p583 : 0 ≤ (x32_2 : Int) := of_decide_eq_true qe_
                have q583 : x32_2 < ((rd_L1 l1 x17_1).length : Int) := of_decide_eq_true qe_
                obtain ⟨ad583, e583, hx583_0⟩ := Kd.at_int HR579_0.out x32_2 p583 q583
                obtain rfl : ad580 = ad583 := (by injection e583)
                replace hx583_0 := (HB.out.cell (World.block_lt_of_cell? w _ hx583_0)).trans hx583_0
                replace p583 := eq_true p583
                replace q583 := eq_true q583
                obtain ⟨Ao23, co23, eo23⟩ := Kd.R_slice HO_5.out
                subst eo23
                have p584 : 0 ≤ ((rd (rd_L1 l1 x17_1) x32_2) : Int) := of_decide_eq_true qe_
                have q584 : (rd (rd_L1 l1 x17_1) x32_2) < (t573.length : Int) := of_decide_eq_true qe_
                obtain ⟨ad584, e584, hx584_0⟩ := Kd.at_int (Kd.R_reads' HO_5.out).2.2 (rd (rd_L1 l1 x17_1) x32_2) p584 q584
                cases e584
                replace p584 := eq_true p584
                replace q584 := eq_true q584
                go_wp2
                repeat (go_quiet (fail); try go_wp2)
                go_roundg k2
                case measure => have := HK1.out; have := HK2.out; omega
                case rel => exact ⟨(x9_2), (wrap64 (x32_2 + 1)), qc_, qc_, H', ⟨by have := HK1.out; have := HK2.out; omega⟩, ⟨(rr_ HO_5)⟩, ⟨(rr_ HO_6)⟩, ⟨(kk_ BK572)⟩, ⟨hB_⟩⟩
              · rw [if_neg c22] at H
                have c22b0 : ((rd t573 (rd (rd_L1 l1 x17_1) x32_2)) == (rd (rd_L1 l1 x17_1) x32_2)) = false := beq_eq_false_iff_ne.mpr c22
                have c22b1 : ((rd t573 (rd (rd_L1 l1 x17_1) x32_2)) != (rd (rd_L1 l1 x17_1) x32_2)) = true := bne_iff_ne.mpr c22
                have H' := Aside0.mk H
                clear H
                have p583 : 0 ≤ (x32_2 : Int) := of_decide_eq_true qe_
                have q583 : x32_2 < ((rd_L1 l1 x17_1).length : Int) := of_decide_eq_true qe_
                obtain ⟨ad583, e583, hx583_0⟩ := Kd.at_int HR579_0.out x32_2 p583 q583
                obtain rfl : ad580 = ad583 := (by injection e583)
                replace hx583_0 := (HB.out.cell (World.block_lt_of_cell? w _ hx583_0)).trans hx583_0
                replace p583 := eq_true p583
                replace q583 := eq_true q583
                obtain ⟨Ao24, co24, eo24⟩ := Kd.R_slice HO_5.out
                subst eo24
                have p584 : 0 ≤ ((rd (rd_L1 l1 x17_1) x32_2) : Int) := of_decide_eq_true qe_
                have q584 : (rd (rd_L1 l1 x17_1) x32_2) < (t573.length : Int) := of_decide_eq_true qe_
                obtain ⟨ad584, e584, hx584_0⟩ := Kd.at_int (Kd.R_reads' HO_5.out).2.2 (rd (rd_L1 l1 x17_1) x32_2) p584 q584
                cases e584
                replace p584 := eq_true p584
                replace q584 := eq_true q584
                go_wp2
                repeat (go_quiet (fail); try go_wp2)
                go_roundg k2
                case measure => have := HK1.out; have := HK2.out; omega
                case rel => exact ⟨((-1)), (wrap64 (x32_2 + 1)), qc_, qc_, H', ⟨by have := HK1.out; have := HK2.out; omega⟩, ⟨(rr_ HO_5)⟩, ⟨(rr_ HO_6)⟩, ⟨(kk_ BK572)⟩, ⟨hB_⟩⟩
            · rw [if_neg c17] at H
              have c17b0 := decide_eq_false c17
              clear c17
              have c25 := cp_ H
              replace H := ca_ H
              have LMc25 := Aside0.mk c25
              clear c25
              obtain ⟨y585, hy585⟩ : ∃ y_ : List Int, y_ = (x6_1 ++ [x9_2]) := ⟨_, rfl⟩
              replace H : (spec_l08Above.l0 k2 l1 t573 y585 l1 (l1.length : Int) (wrap64 (x17_1 + 1)) l0_0 l0_1) = some r := by first | (rw [hy585]; exact H) | exact H
              have Ny585 := Aside0.mk hy585
              clear hy585
              have H' := Aside0.mk H
              clear H
              go_wp2_with (first | ((with_reducible refine gate_builtin (b := .append) (xs := #[.tmp 43, .tmp 45]) rfl ?_); at_builtin; refine Kd.R_append (Kd.int .i64) (w0 := w) w.heap.size rfl (.tmp 43) (.tmp 45) 22 3 (.int .i64 0) 8 rfl Try.underlying22 info3 rfl (by decide) (by omega) u6 x6_1 x9_2 [.int .i64 x9_2] (fun k_ => some k_ ≠ (v574 : Value).ownBlock) (fun _ => False) rfl rfl ?aP (fun _ hk => hk.elim) ?aF ?aO ?aB ?aS ?aL ?_; (case aP => exact rfl); (case aB => exact hB_); (case aF => exact (fun k_ hk => Kd.fresh' (Kd.R_lt (rr_ HO_5)) k_ hk)); (case aO => exact (rr_ HO_6)); (case aS => exact (below_size hB_)); (case aL => have := LMc25.out; omega); intro v586 w26 ho hb hg hat; rw [← Ny585.out] at ho; replace HO_5 := Aside0.mk (Kd.R_after (ok := (fun _ => True)) (rw_ (Kd.R_mono HO_5.out (fun _ hk => ⟨trivial, hk⟩))) hg hat); replace BK572 := Aside0.mk (blk_grown (kk_ BK572) hg (Kd.R_ne HO_6.out BK572.out (by decide))); replace HB := Aside0.mk hb; have HO587 := Aside0.mk ho; clear HO_6; clear ho hb hg hat))
              repeat (go_quiet (first | ((with_reducible refine gate_builtin (b := .append) (xs := #[.tmp 43, .tmp 45]) rfl ?_); at_builtin; refine Kd.R_append (Kd.int .i64) (w0 := w) w.heap.size rfl (.tmp 43) (.tmp 45) 22 3 (.int .i64 0) 8 rfl Try.underlying22 info3 rfl (by decide) (by omega) u6 x6_1 x9_2 [.int .i64 x9_2] (fun k_ => some k_ ≠ (v574 : Value).ownBlock) (fun _ => False) rfl rfl ?aP (fun _ hk => hk.elim) ?aF ?aO ?aB ?aS ?aL ?_; (case aP => exact rfl); (case aB => exact hB_); (case aF => exact (fun k_ hk => Kd.fresh' (Kd.R_lt (rr_ HO_5)) k_ hk)); (case aO => exact (rr_ HO_6)); (case aS => exact (below_size hB_)); (case aL => have := LMc25.out; omega); intro v586 w26 ho hb hg hat; rw [← Ny585.out] at ho; replace HO_5 := Aside0.mk (Kd.R_after (ok := (fun _ => True)) (rw_ (Kd.R_mono HO_5.out (fun _ hk => ⟨trivial, hk⟩))) hg hat); replace BK572 := Aside0.mk (blk_grown (kk_ BK572) hg (Kd.R_ne HO_6.out BK572.out (by decide))); replace HB := Aside0.mk hb; have HO587 := Aside0.mk ho; clear HO_6; clear ho hb hg hat)); try go_wp2_with (first | ((with_reducible refine gate_builtin (b := .append) (xs := #[.tmp 43, .tmp 45]) rfl ?_); at_builtin; refine Kd.R_append (Kd.int .i64) (w0 := w) w.heap.size rfl (.tmp 43) (.tmp 45) 22 3 (.int .i64 0) 8 rfl Try.underlying22 info3 rfl (by decide) (by omega) u6 x6_1 x9_2 [.int .i64 x9_2] (fun k_ => some k_ ≠ (v574 : Value).ownBlock) (fun _ => False) rfl rfl ?aP (fun _ hk => hk.elim) ?aF ?aO ?aB ?aS ?aL ?_; (case aP => exact rfl); (case aB => exact hB_); (case aF => exact (fun k_ hk => Kd.fresh' (Kd.R_lt (rr_ HO_5)) k_ hk)); (case aO => exact (rr_ HO_6)); (case aS => exact (below_size hB_)); (case aL => have := LMc25.out; omega); intro v586 w26 ho hb hg hat; rw [← Ny585.out] at ho; replace HO_5 := Aside0.mk (Kd.R_after (ok := (fun _ => True)) (rw_ (Kd.R_mono HO_5.out (fun _ hk => ⟨trivial, hk⟩))) hg hat); replace BK572 := Aside0.mk (blk_grown (kk_ BK572) hg (Kd.R_ne HO_6.out BK572.out (by decide))); replace HB := Aside0.mk hb; have HO587 := Aside0.mk ho; clear HO_6; clear ho hb hg hat)))
              go_roundg k2
              case measure => have := HK1.out; have := HK2.out; omega
              case rel => exact ⟨(y585), (wrap64 (x17_1 + 1)), qc_, H', ⟨by have := HK1.out; have := HK2.out; omega⟩, ⟨(rw_ (Kd.R_mono HO_5.out (fun _ hk => hk.2)))⟩, ⟨(rr_ HO587)⟩, ⟨(kk_ BK572)⟩, ⟨hB_⟩⟩
      · rw [if_neg c9] at H
        have c9b0 := decide_eq_false c9
        clear c9
        obtain rfl := Option.some.inj H
        go_wp2
        repeat (go_quiet (fail); try go_wp2)
        go_ret
        exact ⟨_, qb_, (rw_ (Kd.R_mono HO_6.out (fun _ hk => trivial))), hB_⟩
end Go.Proofs.Ytbdnellgioimbaa.A
end
section
namespace Go.Proofs.Ytbdnellgioimbaa.A
open Go.RowKit Go.Proofs.YtbdnellgioimbaaW.PrintWords Go.Proofs.YtbdnellgioimbaaW.PrintLast Go.Proofs.YtbdnellgioimbaaW.PrintMore
attribute [local go_sem] max2_int min2_int max_two min_two max_three min_three max_four min_four
set_option linter.unusedVariables false
set_option linter.unusedSimpArgs false
mutual
def spec_l08Joined.l0 : Nat → List Int → Int → Int → Int → Option (Bool)
  | 0, _, _, _, _ => none
  | k + 1, x0, x2, x7, x8 => if x8 ≤ (x0.length : Int) then (spec_l08Joined.j1 k x0 x2 x7 x8 (decide (x7 ≥ 0))) else (spec_l08Joined.j1 k x0 x2 x7 x8 false)
def spec_l08Joined.j1 : Nat → List Int → Int → Int → Int → Bool → Option (Bool)
  | 0, _, _, _, _, _ => none
  | k + 1, x0, x2, x7, x8, x17 => if x17 = true then (if x7 = x2 then (some true) else (if 0 ≤ x7 then (if x7 < (x0.length : Int) then (spec_l08Joined.l0 k x0 x2 (rd x0 x7) (wrap64 (x8 + 1))) else (none)) else (none))) else (some false)
end
def spec_l08Joined.f (k : Nat) (l0 : List Int) (a1 : Int) (a2 : Int) : Option (Bool) := spec_l08Joined.l0 k l0 a2 a1 0
theorem spec_l08Joined.mono_l : ∀ k, (∀ y0 y1 y2 y3, LeO (spec_l08Joined.l0 k y0 y1 y2 y3) (spec_l08Joined.l0 (k + 1) y0 y1 y2 y3)) ∧ (∀ y0 y1 y2 y3 y4, LeO (spec_l08Joined.j1 k y0 y1 y2 y3 y4) (spec_l08Joined.j1 (k + 1) y0 y1 y2 y3 y4))
  | 0 => ⟨fun _ _ _ _ r h => by simp [spec_l08Joined.l0] at h, fun _ _ _ _ _ r h => by simp [spec_l08Joined.j1] at h⟩
  | k + 1 => by
    obtain ⟨ih0, ih1⟩ := spec_l08Joined.mono_l k
    refine ⟨?_, ?_⟩
    · intro y0 y1 y2 y3
      unfold spec_l08Joined.l0
      repeat' first|exact ih0 _ _ _ _|exact ih1 _ _ _ _ _|exact lo_|refine LeO.ite ?_ ?_|refine LeO.bind ?_ (fun _ => ?_)
    · intro y0 y1 y2 y3 y4
      unfold spec_l08Joined.j1
      repeat' first|exact ih0 _ _ _ _|exact ih1 _ _ _ _ _|exact lo_|refine LeO.ite ?_ ?_|refine LeO.bind ?_ (fun _ => ?_)
theorem spec_l08Joined.mono : ∀ a0 a1 a2 k, LeO (spec_l08Joined.f k a0 a1 a2) (spec_l08Joined.f (k + 1) a0 a1 a2) := by
  intro a0 a1 a2 k
  obtain ⟨ih0, ih1⟩ := spec_l08Joined.mono_l k
  unfold spec_l08Joined.f
  repeat' first|exact ih0 _ _ _ _|exact ih1 _ _ _ _ _|exact lo_|refine LeO.ite ?_ ?_|refine LeO.bind ?_ (fun _ => ?_)
set_option maxHeartbeats 8000000 in
set_option maxRecDepth 100000 in
theorem spec_l08Joined.calls (k : Nat) (A0 : Option Addr) (c0 : Nat) (l0 : List Int) (a1 : Int) (a2 : Int) (r : Bool) (w : World) (hr0 : Kd.C (Kd.int .i64) w A0 l0.length l0) (hc0 : l0.length ≤ c0) (h : spec_l08Joined.f k l0 a1 a2 = some r) :
    Calls Try.prog 144 #[.slice A0 l0.length c0, .int .i64 a1, .int .i64 a2] w fun e w' => e = .returned (.bool r) ∧ Drawn0 w w' := by
  have HR0 := Aside0.mk hr0
  have HC0 := Aside0.mk hc0
  clear hr0 hc0
  have H := h
  unfold spec_l08Joined.f at H
  clear h
  have H' := Aside0.mk H
  clear H
  go_enter Try.func144, Try.ntmps144
  go_wp2
  go_loopg [7, 8] k (fun kq v7 v8 w' => ∃ (x7_1 : Int) (x8_1 : Int), v7 = .int .i64 x7_1 ∧ v8 = .int .i64 x8_1 ∧ Aside0 (spec_l08Joined.l0 kq l0 a2 x7_1 x8_1 = some r) ∧ Aside0 (kq ≤ k) ∧ Drawn0 w w')
  case atStart => exact ⟨(a1), (0), qc_, qc_, H', ⟨Nat.le_refl _⟩, by repeat (first | exact Drawn0.refl _ | apply Drawn0.step)⟩
  case round =>
    clear H'
    obtain ⟨x7_1, x8_1, rfl, rfl, HA, HK1, ⟨m1, rfl⟩⟩ := hrel
    cases gk with
    | zero => exact absurd HA.out (by simp [spec_l08Joined.l0])
    | succ k1 =>
      have H := HA.out
      clear HA
      simp only [spec_l08Joined.l0] at H
      have HC4 := Aside0.mk H
      clear H
      go_upto_region 3 with (fail)
      go_cut [17] (fun v17 wc => ∃ (kq : Nat) (x17_3 : Bool), v17 = .bool x17_3 ∧ Aside0 (spec_l08Joined.j1 kq l0 a2 x7_1 x8_1 x17_3 = some r) ∧ Aside0 (kq ≤ k1) ∧ Drawn0 w wc)
      case first =>
        have H := HC4.out
        clear HC4
        by_cases c5 : x8_1 ≤ (l0.length : Int)
        · rw [if_pos c5] at H
          have c5b0 := decide_eq_true c5
          clear c5
          (first | rw [c5b0] | (simp only [i64_w, i32_w]; rw [c5b0]) | skip)
          have H' := Aside0.mk H
          clear H
          go_wp2
          go_meet
          case rel => exact ⟨_, (decide (x7_1 ≥ 0)), qc_, H', ⟨by have := HK1.out; first | omega | exact Nat.le_refl _⟩, by repeat (first | exact Drawn0.refl _ | apply Drawn0.step)⟩
        · rw [if_neg c5] at H
          have c5b0 := decide_eq_false c5
          clear c5
          (first | rw [c5b0] | (simp only [i64_w, i32_w]; rw [c5b0]) | skip)
          have H' := Aside0.mk H
          clear H
          go_wp2
          go_meet
          case rel => exact ⟨_, (false), qc_, H', ⟨by have := HK1.out; first | omega | exact Nat.le_refl _⟩, by repeat (first | exact Drawn0.refl _ | apply Drawn0.step)⟩
      case rest =>
        clear HC4
        obtain ⟨kq, x17_3, rfl, HA, HJ3, ⟨mc3, rfl⟩⟩ := hcut
        cases kq with
        | zero => exact absurd HA.out (by simp [spec_l08Joined.j1])
        | succ kj3 =>
          have H := HA.out
          clear HA
          simp only [spec_l08Joined.j1] at H
          by_cases c6 : x17_3 = true
          · subst c6
            rw [if_pos rfl] at H
            by_cases c7 : x7_1 = a2
            · rw [if_pos c7] at H
              have c7b0 : (x7_1 == a2) = true := beq_iff_eq.mpr c7
              have c7b1 : (x7_1 != a2) = false := bne_eq_false_iff_eq.mpr c7
              clear c7
              obtain rfl := Option.some.inj H
              go_wp2
              go_ret
              exact ⟨qc_, by repeat (first | exact Drawn0.refl _ | apply Drawn0.step)⟩
            · rw [if_neg c7] at H
              have c7b0 : (x7_1 == a2) = false := beq_eq_false_iff_ne.mpr c7
              have c7b1 : (x7_1 != a2) = true := bne_iff_ne.mpr c7
              have c8 := cp_ H
              replace H := ca_ H
              have c8b0 := decide_eq_true c8
              clear c8
              have c9 := cp_ H
              replace H := ca_ H
              have c9b0 := decide_eq_true c9
              clear c9
              have H' := Aside0.mk H
              clear H
              have p588 : 0 ≤ (x7_1 : Int) := of_decide_eq_true qe_
              have q588 : x7_1 < (l0.length : Int) := of_decide_eq_true qe_
              obtain ⟨ad588, e588, hx588_0⟩ := Kd.at_int HR0.out x7_1 p588 q588
              cases e588
              replace p588 := eq_true p588
              replace q588 := eq_true q588
              go_wp2
              go_roundg kj3
              case measure => have := HK1.out; have := HJ3.out; omega
              case rel => exact ⟨(rd l0 x7_1), (wrap64 (x8_1 + 1)), qc_, qc_, H', ⟨by have := HK1.out; have := HJ3.out; omega⟩, by repeat (first | exact Drawn0.refl _ | apply Drawn0.step)⟩
          · replace c6 := Bool.eq_false_iff.mpr c6
            subst c6
            have H1 : (some false) = some r := by rw [if_neg (show ¬ (false = true) by decide)] at H; exact H
            clear H
            have H := H1
            clear H1
            obtain rfl := Option.some.inj H
            go_wp2
            go_ret
            exact ⟨qc_, by repeat (first | exact Drawn0.refl _ | apply Drawn0.step)⟩
end Go.Proofs.Ytbdnellgioimbaa.A
end
section
namespace Go.Proofs.Ytbdnellgioimbaa.A
open Go.RowKit Go.Proofs.YtbdnellgioimbaaW.PrintWords Go.Proofs.YtbdnellgioimbaaW.PrintLast Go.Proofs.YtbdnellgioimbaaW.PrintMore
attribute [local go_sem] max2_int min2_int max_two min_two max_three min_three max_four min_four
set_option linter.unusedVariables false
set_option linter.unusedSimpArgs false
mutual
def spec_l08Mark.j1 : Nat → List Int → Int → List Bool → Int → Option (Int × List Bool)
  | 0, _, _, _, _ => none
  | k + 1, x0, x1, x2, x7 => spec_l08Mark.l1 k x0 x1 x2 x7 true
def spec_l08Mark.l1 : Nat → List Int → Int → List Bool → Int → Bool → Option (Int × List Bool)
  | 0, _, _, _, _, _ => none
  | k + 1, x0, x1, x2, x7, x9 => if x9 = true then (spec_l08Mark.l2 k x0 x1 x2 x7 false x0 (x0.length : Int) 0) else (some (x7, x2))
def spec_l08Mark.l2 : Nat → List Int → Int → List Bool → Int → Bool → List Int → Int → Int → Option (Int × List Bool)
  | 0, _, _, _, _, _, _, _, _ => none
  | k + 1, x0, x1, x2, x7, x9, x32, x33, x34 => if x34 < x33 then (if 0 ≤ x34 then (if x34 < (x32.length : Int) then (if (rd x32 x34) ≥ 0 then (if 0 ≤ (rd x32 x34) then (if (rd x32 x34) < (x2.length : Int) then (if rdOf false x2 (rd x32 x34) = true then (if x34 < (x2.length : Int) then (if rdOf false x2 x34 = true then (spec_l08Mark.l2 k x0 x1 x2 x7 x9 x32 x33 (wrap64 (x34 + 1))) else ((spec_l08Joined.f k x0 x34 x1).bind fun t595 => (if t595 = true then (spec_l08Mark.l2 k x0 x1 (x2.set (x34 : Int).toNat true) (wrap64 (x7 + 1)) true x32 x33 (wrap64 (x34 + 1))) else (spec_l08Mark.l2 k x0 x1 x2 x7 x9 x32 x33 (wrap64 (x34 + 1)))))) else (none)) else (spec_l08Mark.l2 k x0 x1 x2 x7 x9 x32 x33 (wrap64 (x34 + 1)))) else (none)) else (none)) else (spec_l08Mark.l2 k x0 x1 x2 x7 x9 x32 x33 (wrap64 (x34 + 1)))) else (none)) else (none)) else (spec_l08Mark.l1 k x0 x1 x2 x7 x9)
def spec_l08Mark.l0 : Nat → List Int → Int → List Bool → Int → Int → Option (Int × List Bool)
  | 0, _, _, _, _, _ => none
  | k + 1, x0, x1, x2, x7, x8 => if x8 ≥ 0 then (if 0 ≤ x8 then (if x8 < (x2.length : Int) then (if rdOf false x2 x8 = true then (spec_l08Mark.j1 k x0 x1 x2 x7) else (if x8 < (x0.length : Int) then (spec_l08Mark.l0 k x0 x1 (x2.set (x8 : Int).toNat true) (wrap64 (x7 + 1)) (rd x0 x8)) else (none))) else (none)) else (none)) else (spec_l08Mark.j1 k x0 x1 x2 x7)
end
def spec_l08Mark.f (k : Nat) (l0 : List Int) (a1 : Int) (l2 : List Bool) : Option (Int × List Bool) := spec_l08Mark.l0 k l0 a1 l2 0 a1
theorem spec_l08Mark.mono_l : ∀ k, (∀ y0 y1 y2 y3, LeO (spec_l08Mark.j1 k y0 y1 y2 y3) (spec_l08Mark.j1 (k + 1) y0 y1 y2 y3)) ∧ (∀ y0 y1 y2 y3 y4, LeO (spec_l08Mark.l1 k y0 y1 y2 y3 y4) (spec_l08Mark.l1 (k + 1) y0 y1 y2 y3 y4)) ∧ (∀ y0 y1 y2 y3 y4 y5 y6 y7, LeO (spec_l08Mark.l2 k y0 y1 y2 y3 y4 y5 y6 y7) (spec_l08Mark.l2 (k + 1) y0 y1 y2 y3 y4 y5 y6 y7)) ∧ (∀ y0 y1 y2 y3 y4, LeO (spec_l08Mark.l0 k y0 y1 y2 y3 y4) (spec_l08Mark.l0 (k + 1) y0 y1 y2 y3 y4))
  | 0 => ⟨fun _ _ _ _ r h => by simp [spec_l08Mark.j1] at h, fun _ _ _ _ _ r h => by simp [spec_l08Mark.l1] at h, fun _ _ _ _ _ _ _ _ r h => by simp [spec_l08Mark.l2] at h, fun _ _ _ _ _ r h => by simp [spec_l08Mark.l0] at h⟩
  | k + 1 => by
    obtain ⟨ih0, ih1, ih2, ih3⟩ := spec_l08Mark.mono_l k
    refine ⟨?_, ?_, ?_, ?_⟩
    · intro y0 y1 y2 y3
      unfold spec_l08Mark.j1
      repeat' first|exact ih0 _ _ _ _|exact ih1 _ _ _ _ _|exact ih2 _ _ _ _ _ _ _ _|exact ih3 _ _ _ _ _|exact spec_l08Joined.mono _ _ _ _|exact lo_|refine LeO.ite ?_ ?_|refine LeO.bind ?_ (fun _ => ?_)
    · intro y0 y1 y2 y3 y4
      unfold spec_l08Mark.l1
      repeat' first|exact ih0 _ _ _ _|exact ih1 _ _ _ _ _|exact ih2 _ _ _ _ _ _ _ _|exact ih3 _ _ _ _ _|exact spec_l08Joined.mono _ _ _ _|exact lo_|refine LeO.ite ?_ ?_|refine LeO.bind ?_ (fun _ => ?_)
    · intro y0 y1 y2 y3 y4 y5 y6 y7
      unfold spec_l08Mark.l2
      repeat' first|exact ih0 _ _ _ _|exact ih1 _ _ _ _ _|exact ih2 _ _ _ _ _ _ _ _|exact ih3 _ _ _ _ _|exact spec_l08Joined.mono _ _ _ _|exact lo_|refine LeO.ite ?_ ?_|refine LeO.bind ?_ (fun _ => ?_)
    · intro y0 y1 y2 y3 y4
      unfold spec_l08Mark.l0
      repeat' first|exact ih0 _ _ _ _|exact ih1 _ _ _ _ _|exact ih2 _ _ _ _ _ _ _ _|exact ih3 _ _ _ _ _|exact spec_l08Joined.mono _ _ _ _|exact lo_|refine LeO.ite ?_ ?_|refine LeO.bind ?_ (fun _ => ?_)
theorem spec_l08Mark.mono : ∀ a0 a1 a2 k, LeO (spec_l08Mark.f k a0 a1 a2) (spec_l08Mark.f (k + 1) a0 a1 a2) := by
  intro a0 a1 a2 k
  obtain ⟨ih0, ih1, ih2, ih3⟩ := spec_l08Mark.mono_l k
  unfold spec_l08Mark.f
  repeat' first|exact ih0 _ _ _ _|exact ih1 _ _ _ _ _|exact ih2 _ _ _ _ _ _ _ _|exact ih3 _ _ _ _ _|exact spec_l08Joined.mono _ _ _ _|exact lo_|refine LeO.ite ?_ ?_|refine LeO.bind ?_ (fun _ => ?_)
set_option maxHeartbeats 8000000 in
set_option maxRecDepth 100000 in
theorem spec_l08Mark.calls (k : Nat) (A0 : Option Addr) (c0 : Nat) (l0 : List Int) (a1 : Int) (P2_ : Nat → Prop) (u9000_ : Value) (l2 : List Bool) (r1 : Int) (r2 : List Bool) (w0 w : World) (hB : Below w0.heap.size w0 w) (hr0 : ∀ W_, Kept w W_ (fun k_ => P2_ k_) → Kd.C (Kd.int .i64) W_ A0 l0.length l0) (hc0 : l0.length ≤ c0) (ho2 : Kd.R Kd.bool 4 w w0.heap.size P2_ u9000_ l2) (h : spec_l08Mark.f k l0 a1 l2 = some (r1, r2)) :
    Calls Try.prog 113 #[.slice A0 l0.length c0, .int .i64 a1, u9000_] w fun e w' => e = .returned (.int .i64 r1) ∧ Kd.R Kd.bool 4 w' w0.heap.size (fun k_ => (P2_ k_ ∨ w.heap.size ≤ k_)) u9000_ r2 ∧ Below w0.heap.size w0 w' ∧ Kept w w' (fun k_ => P2_ k_) := by
  have HR0 := Aside0.mk hr0
  have HC0 := Aside0.mk hc0
  clear hr0 hc0
  have HO2 := Aside0.mk (show Kd.R Kd.bool 4 w w0.heap.size (fun k_ => (P2_ k_ ∨ w.heap.size ≤ k_)) u9000_ l2 from Kd.R_mono ho2 (fun k_ hk => (.inl hk)))
  have HK := Aside0.mk (Kept.refl w (fun k_ => P2_ k_))
  have HW0 := Aside0.mk hB.size
  have HB := Aside0.mk hB
  clear hB
  have H := h
  unfold spec_l08Mark.f at H
  clear h
  have HC4 := Aside0.mk H
  clear H
  go_enter Try.func113, Try.ntmps113
  go_upto_block 0 with (fail)
  go_cut [7] (fun v7 wc => ∃ (kq : Nat) (x2_3 : List Bool) (x7_3 : Int), v7 = .int .i64 x7_3 ∧ Aside0 (spec_l08Mark.j1 kq l0 a1 x2_3 x7_3 = some (r1, r2)) ∧ Aside0 (kq ≤ k) ∧ Aside0 (Kd.R Kd.bool 4 wc w0.heap.size (fun k_ => (P2_ k_ ∨ w.heap.size ≤ k_)) u9000_ x2_3) ∧ Aside0 (Kept w wc (fun k_ => P2_ k_)) ∧ Aside0 (Below w0.heap.size w0 wc))
  case first =>
    have H := HC4.out
    clear HC4
    have H' := Aside0.mk H
    clear H
    go_wp2
    go_loopg [7, 8] k (fun kq v7 v8 w' => ∃ (x2_1 : List Bool) (x7_1 : Int) (x8_1 : Int), v7 = .int .i64 x7_1 ∧ v8 = .int .i64 x8_1 ∧ Aside0 (spec_l08Mark.l0 kq l0 a1 x2_1 x7_1 x8_1 = some (r1, r2)) ∧ Aside0 (kq ≤ k) ∧ Aside0 (Kd.R Kd.bool 4 w' w0.heap.size (fun k_ => (P2_ k_ ∨ w.heap.size ≤ k_)) u9000_ x2_1) ∧ Aside0 (Kept w w' (fun k_ => P2_ k_)) ∧ Aside0 (Below w0.heap.size w0 w'))
    case atStart => exact ⟨(l2), (0), (a1), qc_, qc_, H', ⟨Nat.le_refl _⟩, ⟨(rr_ HO2)⟩, ⟨by repeat (first | (with_reducible first | exact HK.out | apply Kept.alloc | apply Kept.drewN | apply Kept.drew) | exact HK.out)⟩, ⟨hB_⟩⟩
    case round =>
      clear H'
      obtain ⟨x2_1, x7_1, x8_1, rfl, rfl, HA, HK1, HO_2, HK, HB⟩ := hrel
      cases gk with
      | zero => exact absurd HA.out (by simp [spec_l08Mark.l0])
      | succ k1 =>
        have H := HA.out
        clear HA
        simp only [spec_l08Mark.l0] at H
        by_cases c5 : x8_1 ≥ 0
        · rw [if_pos c5] at H
          have c5b0 : decide (0 ≤ x8_1) = true := decide_eq_true c5
          clear c5
          (first | rw [c5b0] | (simp only [i64_w, i32_w]; rw [c5b0]) | skip)
          have c6 := cp_ H
          replace H := ca_ H
          have c6b0 := decide_eq_true c6
          clear c6
          have c7 := cp_ H
          replace H := ca_ H
          have c7b0 := decide_eq_true c7
          clear c7
          obtain ⟨bq8, hbq8⟩ : ∃ b_ : Bool, b_ = (rdOf false x2_1 x8_1) := ⟨_, rfl⟩
          replace H : (if bq8 = true then (spec_l08Mark.j1 k1 l0 a1 x2_1 x7_1) else (if x8_1 < (l0.length : Int) then (spec_l08Mark.l0 k1 l0 a1 (x2_1.set (x8_1 : Int).toNat true) (wrap64 (x7_1 + 1)) (rd l0 x8_1)) else (none))) = some (r1, r2) := by rw [← hbq8] at H; exact H
          have Nbq8 := Aside0.mk hbq8
          clear hbq8
          by_cases c9 : bq8 = true
          · subst c9
            rw [if_pos rfl] at H
            have H' := Aside0.mk H
            clear H
            obtain ⟨Ao10, co10, eo10⟩ := Kd.R_slice HO_2.out
            subst eo10
            have p589 : 0 ≤ (x8_1 : Int) := of_decide_eq_true qe_
            have q589 : x8_1 < (x2_1.length : Int) := of_decide_eq_true qe_
            obtain ⟨ad589, e589, hx589_0⟩ := Kd.at_bool (Kd.R_reads' HO_2.out).2.2 x8_1 p589 q589
            (try rw [← Nbq8.out] at hx589_0)
            cases e589
            replace p589 := eq_true p589
            replace q589 := eq_true q589
            go_wp2
            go_meet
            case rel => exact ⟨_, (x2_1), (x7_1), qc_, H', ⟨by have := HK1.out; first | omega | exact Nat.le_refl _⟩, ⟨(rr_ HO_2)⟩, ⟨by repeat (first | (with_reducible first | exact HK.out | apply Kept.alloc | apply Kept.drewN | apply Kept.drew) | exact HK.out)⟩, ⟨hB_⟩⟩
          · replace c9 := Bool.eq_false_iff.mpr c9
            subst c9
            have H1 : (if x8_1 < (l0.length : Int) then (spec_l08Mark.l0 k1 l0 a1 (x2_1.set (x8_1 : Int).toNat true) (wrap64 (x7_1 + 1)) (rd l0 x8_1)) else (none)) = some (r1, r2) := by rw [if_neg (show ¬ (false = true) by decide)] at H; exact H
            clear H
            have H := H1
            clear H1
            obtain ⟨y590, hy590⟩ : ∃ y_ : List Bool, y_ = (x2_1.set (x8_1 : Int).toNat true) := ⟨_, rfl⟩
            replace H : (if x8_1 < (l0.length : Int) then (spec_l08Mark.l0 k1 l0 a1 y590 (wrap64 (x7_1 + 1)) (rd l0 x8_1)) else (none)) = some (r1, r2) := by first | (rw [hy590]; exact H) | exact H
            have Ny590 := Aside0.mk hy590
            clear hy590
            have c12 := cp_ H
            replace H := ca_ H
            have c12b0 := decide_eq_true c12
            clear c12
            have H' := Aside0.mk H
            clear H
            obtain ⟨Ao13, co13, eo13⟩ := Kd.R_slice HO_2.out
            subst eo13
            have p589 : 0 ≤ (x8_1 : Int) := of_decide_eq_true qe_
            have q589 : x8_1 < (x2_1.length : Int) := of_decide_eq_true qe_
            obtain ⟨ad589, e589, hx589_0⟩ := Kd.at_bool (Kd.R_reads' HO_2.out).2.2 x8_1 p589 q589
            (try rw [← Nbq8.out] at hx589_0)
            cases e589
            replace p589 := eq_true p589
            replace q589 := eq_true q589
            have p11 : 0 ≤ (x8_1 : Int) := of_decide_eq_true qe_
            have q11 : (x8_1 : Int) < ((x2_1.length : Int) : Int) := of_decide_eq_true qe_
            obtain ⟨go11, co11, eo11, gb11, gl11, cl11, HG11⟩ := Kd.R_form HO_2.out (by omega)
            (first | cases eo11 | (injection eo11 with ea_ en_ ec_; (first | subst ea_ | (injection ea_ with ea_; subst ea_)); subst ec_; clear en_))
            have GB11 := Aside0.mk gb11
            have GG11 := Aside0.mk HG11
            clear gb11 gl11 HG11
            have HMgo11 := Aside0.mk (show (P2_ go11 ∨ w.heap.size ≤ go11) from (HO_2.out.1 _ rfl))
            (first | simp only [add_plain] at hx589_0 | skip)
            obtain ⟨hx11_0, hf11_0⟩ := Kd.R_celln false HO_2.out (x8_1 : Int) p11 q11
            replace p11 := eq_true p11
            replace q11 := eq_true q11
            have HP14 := Kd.R_putg HO_2.out (x8_1 : Int) true
            go_wp2_with (first | ((with_reducible refine gate_store (t := 4) (p := 28) rfl ?_); refine store_event (t := 4) (p := 28) (v := ?vo_w15) (w1 := (wr.setCell ⟨go11, (x8_1 : Int).toNat, none⟩ (.bool true))) ?hg ?ho ?hn ?hr ?_; (case ho => rfl); (case hg => rfl); (case hn => rfl); (case hr => first | (go_simp; done) | (go_simp; rfl)); intro w15 hw; have hg : wr.grownBy w15 (some go11) := (by rw [hw]; exact HP14.2); have hp_ : Kd.R Kd.bool 4 w15 w0.heap.size (fun k_ => (P2_ k_ ∨ w.heap.size ≤ k_)) (.slice (some ⟨go11, 0, none⟩) x2_1.length co13) y590 := (by rw [hw, Ny590.out]; exact HP14.1); clear HP14; replace HB := Aside0.mk ((by rw [hw]; exact below_set (HB.out) GB11.out : Below w0.heap.size w0 w15)); replace HK := Aside0.mk (Kept.of_grown (S := (fun k_ => P2_ k_)) hg (by repeat (first | (with_reducible first | exact HK.out | apply Kept.alloc | apply Kept.drewN | apply Kept.drew) | exact HK.out)) (fun k_ e_ => (HO_2.out.1 k_ e_))); replace HO_2 := Aside0.mk (hp_); clear hg hw hp_; have p591 : 0 ≤ (x8_1 : Int) := of_decide_eq_true qe_; have q591 : x8_1 < (l0.length : Int) := of_decide_eq_true qe_; obtain ⟨ad591, e591, hx591_0⟩ := Kd.at_int (Kd.C_kept_now HR0.out HK.out) x8_1 p591 q591; cases e591; replace p591 := eq_true p591; replace q591 := eq_true q591))
            go_roundg k1
            case measure => have := HK1.out; omega
            case rel => exact ⟨(y590), (wrap64 (x7_1 + 1)), (rd l0 x8_1), qc_, qc_, H', ⟨by have := HK1.out; omega⟩, ⟨(rr_ HO_2)⟩, ⟨by repeat (first | (with_reducible first | exact HK.out | apply Kept.alloc | apply Kept.drewN | apply Kept.drew) | exact HK.out)⟩, ⟨hB_⟩⟩
        · rw [if_neg c5] at H
          have c5b0 : decide (0 ≤ x8_1) = false := decide_eq_false c5
          clear c5
          (first | rw [c5b0] | (simp only [i64_w, i32_w]; rw [c5b0]) | skip)
          have H' := Aside0.mk H
          clear H
          go_wp2
          go_meet
          case rel => exact ⟨_, (x2_1), (x7_1), qc_, H', ⟨by have := HK1.out; first | omega | exact Nat.le_refl _⟩, ⟨(rr_ HO_2)⟩, ⟨by repeat (first | (with_reducible first | exact HK.out | apply Kept.alloc | apply Kept.drewN | apply Kept.drew) | exact HK.out)⟩, ⟨hB_⟩⟩
  case rest =>
    clear HC4
    obtain ⟨kq, x2_3, x7_3, rfl, HA, HJ3, HO_2, HK, HB⟩ := hcut
    cases kq with
    | zero => exact absurd HA.out (by simp [spec_l08Mark.j1])
    | succ kj3 =>
      have H := HA.out
      clear HA
      simp only [spec_l08Mark.j1] at H
      have H' := Aside0.mk H
      clear H
      go_wp2
      go_loopg [7, 9] kj3 (fun kq v7 v9 w' => ∃ (x2_2 : List Bool) (x7_2 : Int) (x9_2 : Bool), v7 = .int .i64 x7_2 ∧ v9 = .bool x9_2 ∧ Aside0 (spec_l08Mark.l1 kq l0 a1 x2_2 x7_2 x9_2 = some (r1, r2)) ∧ Aside0 (kq ≤ kj3) ∧ Aside0 (Kd.R Kd.bool 4 w' w0.heap.size (fun k_ => (P2_ k_ ∨ w.heap.size ≤ k_)) u9000_ x2_2) ∧ Aside0 (Kept w w' (fun k_ => P2_ k_)) ∧ Aside0 (Below w0.heap.size w0 w'))
      case atStart => exact ⟨(x2_3), (x7_3), (true), qc_, qc_, H', ⟨Nat.le_refl _⟩, ⟨(rr_ HO_2)⟩, ⟨by repeat (first | (with_reducible first | exact HK.out | apply Kept.alloc | apply Kept.drewN | apply Kept.drew) | exact HK.out)⟩, ⟨hB_⟩⟩
      case round =>
        clear H'
        obtain ⟨x2_2, x7_2, x9_2, rfl, rfl, HA, HK2, HO_2, HK, HB⟩ := hrel
        cases gk with
        | zero => exact absurd HA.out (by simp [spec_l08Mark.l1])
        | succ k2 =>
          have H := HA.out
          clear HA
          simp only [spec_l08Mark.l1] at H
          by_cases c16 : x9_2 = true
          · subst c16
            rw [if_pos rfl] at H
            have H' := Aside0.mk H
            clear H
            go_wp2
            go_loopg [7, 9, 34] k2 (fun kq v7 v9 v34 w' => ∃ (x2_3 : List Bool) (x7_3 : Int) (x9_3 : Bool) (x34_3 : Int), v7 = .int .i64 x7_3 ∧ v9 = .bool x9_3 ∧ v34 = .int .i64 x34_3 ∧ Aside0 (spec_l08Mark.l2 kq l0 a1 x2_3 x7_3 x9_3 l0 (l0.length : Int) x34_3 = some (r1, r2)) ∧ Aside0 (kq ≤ k2) ∧ Aside0 (Kd.R Kd.bool 4 w' w0.heap.size (fun k_ => (P2_ k_ ∨ w.heap.size ≤ k_)) u9000_ x2_3) ∧ Aside0 (Kept w w' (fun k_ => P2_ k_)) ∧ Aside0 (Below w0.heap.size w0 w'))
            case atStart => exact ⟨(x2_2), (x7_2), (false), (0), qc_, qc_, qc_, H', ⟨Nat.le_refl _⟩, ⟨(rr_ HO_2)⟩, ⟨by repeat (first | (with_reducible first | exact HK.out | apply Kept.alloc | apply Kept.drewN | apply Kept.drew) | exact HK.out)⟩, ⟨hB_⟩⟩
            case round =>
              clear H'
              obtain ⟨x2_3, x7_3, x9_3, x34_3, rfl, rfl, rfl, HA, HK3, HO_2, HK, HB⟩ := hrel
              cases gk with
              | zero => exact absurd HA.out (by simp [spec_l08Mark.l2])
              | succ k3 =>
                have H := HA.out
                clear HA
                simp only [spec_l08Mark.l2] at H
                by_cases c17 : x34_3 < (l0.length : Int)
                · rw [if_pos c17] at H
                  have c17b0 := decide_eq_true c17
                  clear c17
                  have c18 := cp_ H
                  replace H := ca_ H
                  have c18b0 := decide_eq_true c18
                  clear c18
                  have c19 := cp_ H
                  replace H := ca_ H
                  have c19b0 := decide_eq_true c19
                  clear c19
                  by_cases c20 : (rd l0 x34_3) ≥ 0
                  · rw [if_pos c20] at H
                    have c20b0 : decide (0 ≤ (rd l0 x34_3)) = true := decide_eq_true c20
                    clear c20
                    have c21 := cp_ H
                    replace H := ca_ H
                    have c21b0 := decide_eq_true c21
                    clear c21
                    have c22 := cp_ H
                    replace H := ca_ H
                    have c22b0 := decide_eq_true c22
                    clear c22
                    obtain ⟨bq23, hbq23⟩ : ∃ b_ : Bool, b_ = (rdOf false x2_3 (rd l0 x34_3)) := ⟨_, rfl⟩
                    replace H : (if bq23 = true then (if x34_3 < (x2_3.length : Int) then (if rdOf false x2_3 x34_3 = true then (spec_l08Mark.l2 k3 l0 a1 x2_3 x7_3 x9_3 l0 (l0.length : Int) (wrap64 (x34_3 + 1))) else ((spec_l08Joined.f k3 l0 x34_3 a1).bind fun t595 => (if t595 = true then (spec_l08Mark.l2 k3 l0 a1 (x2_3.set (x34_3 : Int).toNat true) (wrap64 (x7_3 + 1)) true l0 (l0.length : Int) (wrap64 (x34_3 + 1))) else (spec_l08Mark.l2 k3 l0 a1 x2_3 x7_3 x9_3 l0 (l0.length : Int) (wrap64 (x34_3 + 1)))))) else (none)) else (spec_l08Mark.l2 k3 l0 a1 x2_3 x7_3 x9_3 l0 (l0.length : Int) (wrap64 (x34_3 + 1)))) = some (r1, r2) := by rw [← hbq23] at H; exact H
                    have Nbq23 := Aside0.mk hbq23
                    clear hbq23
                    by_cases c24 : bq23 = true
                    · subst c24
                      rw [if_pos rfl] at H
                      have c25 := cp_ H
                      replace H := ca_ H
                      have c25b0 := decide_eq_true c25
                      clear c25
                      obtain ⟨bq26, hbq26⟩ : ∃ b_ : Bool, b_ = (rdOf false x2_3 x34_3) := ⟨_, rfl⟩
                      replace H : (if bq26 = true then (spec_l08Mark.l2 k3 l0 a1 x2_3 x7_3 x9_3 l0 (l0.length : Int) (wrap64 (x34_3 + 1))) else ((spec_l08Joined.f k3 l0 x34_3 a1).bind fun t595 => (if t595 = true then (spec_l08Mark.l2 k3 l0 a1 (x2_3.set (x34_3 : Int).toNat true) (wrap64 (x7_3 + 1)) true l0 (l0.length : Int) (wrap64 (x34_3 + 1))) else (spec_l08Mark.l2 k3 l0 a1 x2_3 x7_3 x9_3 l0 (l0.length : Int) (wrap64 (x34_3 + 1)))))) = some (r1, r2) := by rw [← hbq26] at H; exact H
                      have Nbq26 := Aside0.mk hbq26
                      clear hbq26
                      by_cases c27 : bq26 = true
                      · subst c27
                        rw [if_pos rfl] at H
                        have H' := Aside0.mk H
                        clear H
                        have p592 : 0 ≤ (x34_3 : Int) := of_decide_eq_true qe_
                        have q592 : x34_3 < (l0.length : Int) := of_decide_eq_true qe_
                        obtain ⟨ad592, e592, hx592_0⟩ := Kd.at_int (Kd.C_kept_now HR0.out HK.out) x34_3 p592 q592
                        cases e592
                        replace p592 := eq_true p592
                        replace q592 := eq_true q592
                        obtain ⟨Ao28, co28, eo28⟩ := Kd.R_slice HO_2.out
                        subst eo28
                        have p593 : 0 ≤ ((rd l0 x34_3) : Int) := of_decide_eq_true qe_
                        have q593 : (rd l0 x34_3) < (x2_3.length : Int) := of_decide_eq_true qe_
                        obtain ⟨ad593, e593, hx593_0⟩ := Kd.at_bool (Kd.R_reads' HO_2.out).2.2 (rd l0 x34_3) p593 q593
                        (try rw [← Nbq23.out] at hx593_0)
                        (try rw [← Nbq26.out] at hx593_0)
                        cases e593
                        replace p593 := eq_true p593
                        replace q593 := eq_true q593
                        have p594 : 0 ≤ (x34_3 : Int) := of_decide_eq_true qe_
                        have q594 : x34_3 < (x2_3.length : Int) := of_decide_eq_true qe_
                        obtain ⟨ad594, e594, hx594_0⟩ := Kd.at_bool (Kd.R_reads' HO_2.out).2.2 x34_3 p594 q594
                        (try rw [← Nbq23.out] at hx594_0)
                        (try rw [← Nbq26.out] at hx594_0)
                        obtain rfl : ad593 = ad594 := (by injection e594)
                        replace p594 := eq_true p594
                        replace q594 := eq_true q594
                        go_wp2
                        go_roundg k3
                        case measure => have := HJ3.out; have := HK2.out; have := HK3.out; omega
                        case rel => exact ⟨(x2_3), (x7_3), (x9_3), (wrap64 (x34_3 + 1)), qc_, qc_, qc_, H', ⟨by have := HJ3.out; have := HK2.out; have := HK3.out; omega⟩, ⟨(rr_ HO_2)⟩, ⟨by repeat (first | (with_reducible first | exact HK.out | apply Kept.alloc | apply Kept.drewN | apply Kept.drew) | exact HK.out)⟩, ⟨hB_⟩⟩
                      · replace c27 := Bool.eq_false_iff.mpr c27
                        subst c27
                        have H1 : ((spec_l08Joined.f k3 l0 x34_3 a1).bind fun t595 => (if t595 = true then (spec_l08Mark.l2 k3 l0 a1 (x2_3.set (x34_3 : Int).toNat true) (wrap64 (x7_3 + 1)) true l0 (l0.length : Int) (wrap64 (x34_3 + 1))) else (spec_l08Mark.l2 k3 l0 a1 x2_3 x7_3 x9_3 l0 (l0.length : Int) (wrap64 (x34_3 + 1))))) = some (r1, r2) := by rw [if_neg (show ¬ (false = true) by decide)] at H; exact H
                        clear H
                        have H := H1
                        clear H1
                        obtain ⟨t595, A29, H⟩ := bi_ H
                        by_cases c30 : t595 = true
                        · subst c30
                          rw [if_pos rfl] at H
                          obtain ⟨y596, hy596⟩ : ∃ y_ : List Bool, y_ = (x2_3.set (x34_3 : Int).toNat true) := ⟨_, rfl⟩
                          replace H : (spec_l08Mark.l2 k3 l0 a1 y596 (wrap64 (x7_3 + 1)) true l0 (l0.length : Int) (wrap64 (x34_3 + 1))) = some (r1, r2) := by first | (rw [hy596]; exact H) | exact H
                          have Ny596 := Aside0.mk hy596
                          clear hy596
                          have H' := Aside0.mk H
                          clear H
                          have p592 : 0 ≤ (x34_3 : Int) := of_decide_eq_true qe_
                          have q592 : x34_3 < (l0.length : Int) := of_decide_eq_true qe_
                          obtain ⟨ad592, e592, hx592_0⟩ := Kd.at_int (Kd.C_kept_now HR0.out HK.out) x34_3 p592 q592
                          cases e592
                          replace p592 := eq_true p592
                          replace q592 := eq_true q592
                          obtain ⟨Ao32, co32, eo32⟩ := Kd.R_slice HO_2.out
                          subst eo32
                          have p593 : 0 ≤ ((rd l0 x34_3) : Int) := of_decide_eq_true qe_
                          have q593 : (rd l0 x34_3) < (x2_3.length : Int) := of_decide_eq_true qe_
                          obtain ⟨ad593, e593, hx593_0⟩ := Kd.at_bool (Kd.R_reads' HO_2.out).2.2 (rd l0 x34_3) p593 q593
                          (try rw [← Nbq23.out] at hx593_0)
                          (try rw [← Nbq26.out] at hx593_0)
                          cases e593
                          replace p593 := eq_true p593
                          replace q593 := eq_true q593
                          have p594 : 0 ≤ (x34_3 : Int) := of_decide_eq_true qe_
                          have q594 : x34_3 < (x2_3.length : Int) := of_decide_eq_true qe_
                          obtain ⟨ad594, e594, hx594_0⟩ := Kd.at_bool (Kd.R_reads' HO_2.out).2.2 x34_3 p594 q594
                          (try rw [← Nbq23.out] at hx594_0)
                          (try rw [← Nbq26.out] at hx594_0)
                          obtain rfl : ad593 = ad594 := (by injection e594)
                          replace p594 := eq_true p594
                          replace q594 := eq_true q594
                          go_wp2_with (first | (go_at_call 144; (with_reducible refine (spec_l08Joined.calls k3 _ _ l0 x34_3 a1 true _ (Kd.C_kept_now HR0.out (by repeat (first | (with_reducible first | exact HK.out | apply Kept.alloc | apply Kept.drewN | apply Kept.drew) | exact HK.out))) HC0.out A29.out).mono ?_); rintro e w' ⟨rfl, ⟨nd, rfl⟩⟩; (try (rw [drewN_self wr]; generalize hq_ : World.drewN wr _ = wr; have n0_ : Aside0 (Kd.R Kd.bool 4 wr w0.heap.size (fun k_ => (P2_ k_ ∨ w.heap.size ≤ k_)) (.slice (some ad593) x2_3.length co32) x2_3) := ⟨by rw [← hq_]; exact (rr_ HO_2)⟩; have n1_ : Aside0 (Kept w wr (fun k_ => P2_ k_)) := ⟨by rw [← hq_]; exact (by repeat (first | (with_reducible first | exact HK.out | apply Kept.alloc | apply Kept.drewN | apply Kept.drew) | exact HK.out))⟩; have n2_ : Aside0 (Below w0.heap.size w0 wr) := ⟨by rw [← hq_]; exact hB_⟩; clear HO_2 HK HB hq_; have HO_2 := n0_; have HK := n1_; have HB := n2_; clear n0_ n1_ n2_)); have p31 : 0 ≤ (x34_3 : Int) := of_decide_eq_true qe_; have q31 : (x34_3 : Int) < ((x2_3.length : Int) : Int) := of_decide_eq_true qe_; obtain ⟨go31, co31, eo31, gb31, gl31, cl31, HG31⟩ := Kd.R_form HO_2.out (by omega); (first | cases eo31 | (injection eo31 with ea_ en_ ec_; (first | subst ea_ | (injection ea_ with ea_; subst ea_)); subst ec_; clear en_)); have GB31 := Aside0.mk gb31; have GG31 := Aside0.mk HG31; clear gb31 gl31 HG31; have HMgo31 := Aside0.mk (show (P2_ go31 ∨ w.heap.size ≤ go31) from (HO_2.out.1 _ rfl)); (first | simp only [add_plain] at hx593_0 | skip); (first | simp only [add_plain] at hx594_0 | skip); obtain ⟨hx31_0, hf31_0⟩ := Kd.R_celln false HO_2.out (x34_3 : Int) p31 q31; replace p31 := eq_true p31; replace q31 := eq_true q31; obtain ⟨hy33_, hz33_⟩ := Kd.R_celln false HO_2.out (x34_3 : Int) (of_decide_eq_true qe_) (of_decide_eq_true qe_); have HP33 := Kd.R_putg HO_2.out (x34_3 : Int) true) | ((with_reducible refine gate_store (t := 4) (p := 62) rfl ?_); refine store_event (t := 4) (p := 62) (v := ?vo_w34) (w1 := (wr.setCell ⟨go31, (x34_3 : Int).toNat, none⟩ (.bool true))) ?hg ?ho ?hn ?hr ?_; (case ho => rfl); (case hg => rfl); (case hn => rfl); (case hr => first | (go_simp; done) | (go_simp; rfl)); intro w34 hw; have hg : wr.grownBy w34 (some go31) := (by rw [hw]; exact HP33.2); have hp_ : Kd.R Kd.bool 4 w34 w0.heap.size (fun k_ => (P2_ k_ ∨ w.heap.size ≤ k_)) (.slice (some ⟨go31, 0, none⟩) x2_3.length co32) y596 := (by rw [hw, Ny596.out]; exact HP33.1); clear HP33; replace HB := Aside0.mk ((by rw [hw]; exact below_set (HB.out) GB31.out : Below w0.heap.size w0 w34)); replace HK := Aside0.mk (Kept.of_grown (S := (fun k_ => P2_ k_)) hg (by repeat (first | (with_reducible first | exact HK.out | apply Kept.alloc | apply Kept.drewN | apply Kept.drew) | exact HK.out)) (fun k_ e_ => (HO_2.out.1 k_ e_))); replace HO_2 := Aside0.mk (hp_); clear hg hw hp_))
                          go_roundg k3
                          case measure => have := HJ3.out; have := HK2.out; have := HK3.out; omega
                          case rel => exact ⟨(y596), (wrap64 (x7_3 + 1)), (true), (wrap64 (x34_3 + 1)), qc_, qc_, qc_, H', ⟨by have := HJ3.out; have := HK2.out; have := HK3.out; omega⟩, ⟨(rr_ HO_2)⟩, ⟨by repeat (first | (with_reducible first | exact HK.out | apply Kept.alloc | apply Kept.drewN | apply Kept.drew) | exact HK.out)⟩, ⟨hB_⟩⟩
                        · replace c30 := Bool.eq_false_iff.mpr c30
                          subst c30
                          have H1 : (spec_l08Mark.l2 k3 l0 a1 x2_3 x7_3 x9_3 l0 (l0.length : Int) (wrap64 (x34_3 + 1))) = some (r1, r2) := by rw [if_neg (show ¬ (false = true) by decide)] at H; exact H
                          clear H
                          have H := H1
                          clear H1
                          have H' := Aside0.mk H
                          clear H
                          have p592 : 0 ≤ (x34_3 : Int) := of_decide_eq_true qe_
                          have q592 : x34_3 < (l0.length : Int) := of_decide_eq_true qe_
                          obtain ⟨ad592, e592, hx592_0⟩ := Kd.at_int (Kd.C_kept_now HR0.out HK.out) x34_3 p592 q592
                          cases e592
                          replace p592 := eq_true p592
                          replace q592 := eq_true q592
                          obtain ⟨Ao35, co35, eo35⟩ := Kd.R_slice HO_2.out
                          subst eo35
                          have p593 : 0 ≤ ((rd l0 x34_3) : Int) := of_decide_eq_true qe_
                          have q593 : (rd l0 x34_3) < (x2_3.length : Int) := of_decide_eq_true qe_
                          obtain ⟨ad593, e593, hx593_0⟩ := Kd.at_bool (Kd.R_reads' HO_2.out).2.2 (rd l0 x34_3) p593 q593
                          (try rw [← Nbq23.out] at hx593_0)
                          (try rw [← Nbq26.out] at hx593_0)
                          cases e593
                          replace p593 := eq_true p593
                          replace q593 := eq_true q593
                          have p594 : 0 ≤ (x34_3 : Int) := of_decide_eq_true qe_
                          have q594 : x34_3 < (x2_3.length : Int) := of_decide_eq_true qe_
                          obtain ⟨ad594, e594, hx594_0⟩ := Kd.at_bool (Kd.R_reads' HO_2.out).2.2 x34_3 p594 q594
                          (try rw [← Nbq23.out] at hx594_0)
                          (try rw [← Nbq26.out] at hx594_0)
                          obtain rfl : ad593 = ad594 := (by injection e594)
                          replace p594 := eq_true p594
                          replace q594 := eq_true q594
                          go_wp2_with (first | (go_at_call 144; (with_reducible refine (spec_l08Joined.calls k3 _ _ l0 x34_3 a1 false _ (Kd.C_kept_now HR0.out (by repeat (first | (with_reducible first | exact HK.out | apply Kept.alloc | apply Kept.drewN | apply Kept.drew) | exact HK.out))) HC0.out A29.out).mono ?_); rintro e w' ⟨rfl, ⟨nd, rfl⟩⟩))
                          go_roundg k3
                          case measure => have := HJ3.out; have := HK2.out; have := HK3.out; omega
                          case rel => exact ⟨(x2_3), (x7_3), (x9_3), (wrap64 (x34_3 + 1)), qc_, qc_, qc_, H', ⟨by have := HJ3.out; have := HK2.out; have := HK3.out; omega⟩, ⟨(rr_ HO_2)⟩, ⟨by repeat (first | (with_reducible first | exact HK.out | apply Kept.alloc | apply Kept.drewN | apply Kept.drew) | exact HK.out)⟩, ⟨hB_⟩⟩
                    · replace c24 := Bool.eq_false_iff.mpr c24
                      subst c24
                      have H1 : (spec_l08Mark.l2 k3 l0 a1 x2_3 x7_3 x9_3 l0 (l0.length : Int) (wrap64 (x34_3 + 1))) = some (r1, r2) := by rw [if_neg (show ¬ (false = true) by decide)] at H; exact H
                      clear H
                      have H := H1
                      clear H1
                      have H' := Aside0.mk H
                      clear H
                      have p592 : 0 ≤ (x34_3 : Int) := of_decide_eq_true qe_
                      have q592 : x34_3 < (l0.length : Int) := of_decide_eq_true qe_
                      obtain ⟨ad592, e592, hx592_0⟩ := Kd.at_int (Kd.C_kept_now HR0.out HK.out) x34_3 p592 q592
                      cases e592
                      replace p592 := eq_true p592
                      replace q592 := eq_true q592
                      obtain ⟨Ao36, co36, eo36⟩ := Kd.R_slice HO_2.out
                      subst eo36
                      have p593 : 0 ≤ ((rd l0 x34_3) : Int) := of_decide_eq_true qe_
                      have q593 : (rd l0 x34_3) < (x2_3.length : Int) := of_decide_eq_true qe_
                      obtain ⟨ad593, e593, hx593_0⟩ := Kd.at_bool (Kd.R_reads' HO_2.out).2.2 (rd l0 x34_3) p593 q593
                      (try rw [← Nbq23.out] at hx593_0)
                      cases e593
                      replace p593 := eq_true p593
                      replace q593 := eq_true q593
                      go_wp2
                      go_roundg k3
                      case measure => have := HJ3.out; have := HK2.out; have := HK3.out; omega
                      case rel => exact ⟨(x2_3), (x7_3), (x9_3), (wrap64 (x34_3 + 1)), qc_, qc_, qc_, H', ⟨by have := HJ3.out; have := HK2.out; have := HK3.out; omega⟩, ⟨(rr_ HO_2)⟩, ⟨by repeat (first | (with_reducible first | exact HK.out | apply Kept.alloc | apply Kept.drewN | apply Kept.drew) | exact HK.out)⟩, ⟨hB_⟩⟩
                  · rw [if_neg c20] at H
                    have c20b0 : decide (0 ≤ (rd l0 x34_3)) = false := decide_eq_false c20
                    clear c20
                    have H' := Aside0.mk H
                    clear H
                    have p592 : 0 ≤ (x34_3 : Int) := of_decide_eq_true qe_
                    have q592 : x34_3 < (l0.length : Int) := of_decide_eq_true qe_
                    obtain ⟨ad592, e592, hx592_0⟩ := Kd.at_int (Kd.C_kept_now HR0.out HK.out) x34_3 p592 q592
                    cases e592
                    replace p592 := eq_true p592
                    replace q592 := eq_true q592
                    go_wp2
                    go_roundg k3
                    case measure => have := HJ3.out; have := HK2.out; have := HK3.out; omega
                    case rel => exact ⟨(x2_3), (x7_3), (x9_3), (wrap64 (x34_3 + 1)), qc_, qc_, qc_, H', ⟨by have := HJ3.out; have := HK2.out; have := HK3.out; omega⟩, ⟨(rr_ HO_2)⟩, ⟨by repeat (first | (with_reducible first | exact HK.out | apply Kept.alloc | apply Kept.drewN | apply Kept.drew) | exact HK.out)⟩, ⟨hB_⟩⟩
                · rw [if_neg c17] at H
                  have c17b0 := decide_eq_false c17
                  clear c17
                  have H' := Aside0.mk H
                  clear H
                  go_wp2
                  go_roundg k3
                  case measure => have := HJ3.out; have := HK2.out; have := HK3.out; omega
                  case rel => exact ⟨(x2_3), (x7_3), (x9_3), qc_, qc_, H', ⟨by have := HJ3.out; have := HK2.out; have := HK3.out; omega⟩, ⟨(rr_ HO_2)⟩, ⟨by repeat (first | (with_reducible first | exact HK.out | apply Kept.alloc | apply Kept.drewN | apply Kept.drew) | exact HK.out)⟩, ⟨hB_⟩⟩
          · replace c16 := Bool.eq_false_iff.mpr c16
            subst c16
            have H1 : (some (x7_2, x2_2)) = some (r1, r2) := by rw [if_neg (show ¬ (false = true) by decide)] at H; exact H
            clear H
            have H := H1
            clear H1
            simp only [Option.some.injEq, Prod.mk.injEq] at H
            obtain ⟨rfl, rfl⟩ := H
            go_wp2
            go_ret
            exact ⟨qb_, (rr_ HO_2), hB_, by repeat (first | (with_reducible first | exact HK.out | apply Kept.alloc | apply Kept.drewN | apply Kept.drew) | exact HK.out)⟩
end Go.Proofs.Ytbdnellgioimbaa.A
end
section
namespace Go.Proofs.Ytbdnellgioimbaa.A
open Go.RowKit Go.Proofs.YtbdnellgioimbaaW.PrintWords Go.Proofs.YtbdnellgioimbaaW.PrintLast Go.Proofs.YtbdnellgioimbaaW.PrintMore
attribute [local go_sem] max2_int min2_int max_two min_two max_three min_three max_four min_four
set_option linter.unusedVariables false
set_option linter.unusedSimpArgs false
def spec_l08Cylinders.l0 : Nat → List Int → List Bool → List (S44) → List (List Int) → Int → Int → Option ((List (S44)))
  | 0, _, _, _, _, _, _ => none
  | k + 1, x4, x5, x6, x19, x20, x21 => if x21 < x20 then (if 0 ≤ x21 then (if x21 < (x19.length : Int) then (if x21 < (x5.length : Int) then (if rdOf false x5 x21 = true then (spec_l08Cylinders.l0 k x4 x5 x6 x19 x20 (wrap64 (x21 + 1))) else ((spec_l08Mark.f k x4 x21 x5).bind fun bt612 => (if x6.length < 8796093022208 then (spec_l08Cylinders.l0 k x4 bt612.2 (x6 ++ [(⟨((rd_L1 x19 x21).length : Int), bt612.1⟩ : S44)]) x19 x20 (wrap64 (x21 + 1))) else (none)))) else (none)) else (none)) else (none)) else (some x6)
def spec_l08Cylinders.f (k : Nat) (l0_0 : List Int) (l0_1 : List Int) : Option ((List (S44))) := (spec_CyclesOf.f k l0_0).bind fun t598 => ((spec_l08Above.f k l0_0 l0_1 t598).bind fun t601 => (if 0 ≤ (t598.length : Int) then (if ((t598.length : Int) : Int).toNat ≤ 281474976710656 then (spec_l08Cylinders.l0 k t601 (List.replicate ((t598.length : Int) : Int).toNat false) (([] : List (S44))) t598 (t598.length : Int) 0) else (none)) else (none)))
theorem spec_l08Cylinders.mono_l : ∀ k, (∀ y0 y1 y2 y3 y4 y5, LeO (spec_l08Cylinders.l0 k y0 y1 y2 y3 y4 y5) (spec_l08Cylinders.l0 (k + 1) y0 y1 y2 y3 y4 y5))
  | 0 => fun _ _ _ _ _ _ r h => by simp [spec_l08Cylinders.l0] at h
  | k + 1 => by
    have ih0 := spec_l08Cylinders.mono_l k
    · intro y0 y1 y2 y3 y4 y5
      unfold spec_l08Cylinders.l0
      repeat' first|exact ih0 _ _ _ _ _ _|exact spec_CyclesOf.mono _ _|exact spec_l08Above.mono _ _ _ _|exact spec_l08Mark.mono _ _ _ _|exact lo_|refine LeO.ite ?_ ?_|refine LeO.bind ?_ (fun _ => ?_)
theorem spec_l08Cylinders.mono : ∀ a0 a1 k, LeO (spec_l08Cylinders.f k a0 a1) (spec_l08Cylinders.f (k + 1) a0 a1) := by
  intro a0 a1 k
  have ih0 := spec_l08Cylinders.mono_l k
  unfold spec_l08Cylinders.f
  repeat' first|exact ih0 _ _ _ _ _ _|exact spec_CyclesOf.mono _ _|exact spec_l08Above.mono _ _ _ _|exact spec_l08Mark.mono _ _ _ _|exact lo_|refine LeO.ite ?_ ?_|refine LeO.bind ?_ (fun _ => ?_)
set_option maxHeartbeats 8000000 in
set_option maxRecDepth 100000 in
theorem spec_l08Cylinders.calls (k : Nat) (A0_0 : Option Addr) (c0_0 : Nat) (l0_0 : List Int) (A0_1 : Option Addr) (c0_1 : Nat) (l0_1 : List Int) (r : List (S44)) (w : World) (hr0_0 : Kd.C (Kd.int .i64) w A0_0 l0_0.length l0_0) (hc0_0 : l0_0.length ≤ c0_0) (hr0_1 : Kd.C (Kd.int .i64) w A0_1 l0_1.length l0_1) (hc0_1 : l0_1.length ≤ c0_1) (h : spec_l08Cylinders.f k l0_0 l0_1 = some r) :
    Calls Try.prog 64 #[.agg #[.slice A0_0 l0_0.length c0_0, .slice A0_1 l0_1.length c0_1]] w fun e w' => ∃ v0_ : Value, e = .returned (v0_) ∧ Kd.R k44 44 w' w.heap.size (fun _ => True) v0_ r ∧ Below w.heap.size w w' := by
  have hu27 := Try.underlying27
  have hu44 := Try.underlying44
  have HR0_0 := Aside0.mk hr0_0
  have HC0_0 := Aside0.mk hc0_0
  clear hr0_0 hc0_0
  have HR0_1 := Aside0.mk hr0_1
  have HC0_1 := Aside0.mk hc0_1
  clear hr0_1 hc0_1
  have HB := Aside0.mk (Below.refl w.heap.size w)
  have H := h
  unfold spec_l08Cylinders.f at H
  clear h
  obtain ⟨t598, A2, H⟩ := bi_ H
  obtain ⟨t601, A3, H⟩ := bi_ H
  have c4 := cp_ H
  replace H := ca_ H
  have c4b0 := eq_true c4
  have c4b1 := decide_eq_true c4
  clear c4
  have c5 := cp_ H
  replace H := ca_ H
  have c5b0 := eq_true c5
  have c5b1 := decide_eq_true c5
  clear c5
  obtain ⟨y604, hy604⟩ : ∃ y_ : List Bool, y_ = (List.replicate ((t598.length : Int) : Int).toNat false) := ⟨_, rfl⟩
  replace H : (spec_l08Cylinders.l0 k t601 y604 (([] : List (S44))) t598 (t598.length : Int) 0) = some r := by first | (rw [hy604]; exact H) | exact H
  have Ny604 := Aside0.mk hy604
  clear hy604
  obtain ⟨y607, hy607⟩ : ∃ y_ : List (S44), y_ = (([] : List (S44))) := ⟨_, rfl⟩
  replace H : (spec_l08Cylinders.l0 k t601 y604 y607 t598 (t598.length : Int) 0) = some r := by first | (rw [hy607]; exact H) | exact H
  have Ny607 := Aside0.mk hy607
  clear hy607
  have H' := Aside0.mk H
  clear H
  go_enter Try.func64, Try.ntmps64
  go_wp2_with (first | ((with_reducible refine gate_dst (N := 1) rfl ?_); refine bx_ 1 #[.slice A0_0 l0_0.length c0_0, .slice A0_1 l0_1.length c0_1] 27 ?_; intro gb597 hg w6 hbox hb; have BK597 := Aside0.mk hbox; have GW597 := gw_ w hg; have GE597 := GW597; replace HB := b1_ hb; clear hb hbox hg; obtain ⟨hcz7_0, hcz7_1, hfz7_0, hfz7_1⟩ := c2_ BK597) | ((with_reducible refine gate_callee (f := 111) rfl ?_); refine gL_ (some 11) Try.func111 #[.slice A0_0 l0_0.length c0_0] rfl qa_ ?_; (with_reducible refine (spec_CyclesOf.calls k _ _ l0_0 t598 _ (cb_ HR0_0) HC0_0.out A2.out).mono ?_); rintro e w8 ⟨v599, rfl, ho0, hb⟩; refine ⟨_, rfl, ?_⟩; have HO600 := Aside0.mk (Kd.S_lower ho0 (below_size hB_)); replace BK597 := bb_ BK597 hb; replace HB := b1_ hb; clear hb ho0; obtain ⟨hcz9_0, hcz9_1, hfz9_0, hfz9_1⟩ := c2_ BK597; obtain ⟨Ao10, co10, eo10⟩ := Kd.S_slice HO600.out; subst eo10) | ((with_reducible refine gate_callee (f := 112) rfl ?_); refine gL_ (some 14) Try.func112 #[.agg #[.slice A0_0 l0_0.length c0_0, .slice A0_1 l0_1.length c0_1], .slice Ao10 t598.length co10] rfl qa_ ?_; (with_reducible refine (spec_l08Above.calls k _ _ l0_0 _ _ l0_1 _ _ t598 t601 _ (cb_ HR0_0) HC0_0.out (cb_ HR0_1) HC0_1.out (cw_ ((Kd.S_reads' HO600.out).2.2)) ((Kd.S_reads' HO600.out).2.1) A3.out).mono ?_); rintro e w11 ⟨v602, rfl, ho0, hb⟩; refine ⟨_, rfl, ?_⟩; replace HO600 := Aside0.mk (Kd.S_elder' (ss_ HO600) (Kd.R_base ho0) hb); have HO603 := rl_ w ho0; replace BK597 := bb_ BK597 hb; replace HB := b1_ hb; clear hb ho0) | ((with_reducible refine gate_dst (N := 17) rfl ?_); refine Kd.R_make Kd.bool _ 4 rfl (N := 17) rfl 98 _ _ rfl (t598.length : Int) rfl rfl Try.underlying98 (.bool false) 1 info4 rfl (by decide) (by omega) false (ok := fun _ => True) (okp := fun _ => True) rfl (fun _ hk => hk) trivial (of_decide_eq_true qe_) (Nat.le_trans (Nat.mul_le_mul_right _ (of_decide_eq_true qe_ : (t598.length : Int).toNat ≤ 281474976710656)) (by omega)) (Below.refl _ _) (Nat.le_refl _) ?_; intro v605 w12 ho13 hb hg_ hnew_; clear hg_ hnew_; (first | rw [← Ny604.out] at ho13 | (simp only [Int.reduceToNat] at ho13; rw [← Ny604.out] at ho13)); replace HO600 := sb_ HO600 hb; replace HO603 := rb_ HO603 hb; have HO606 := rl_ w ho13; replace BK597 := bb_ BK597 hb; replace HB := b1_ hb; clear hb ho13) | ((with_reducible refine gate_dst (N := 18) rfl ?_); refine Kd.R_lit k44 _ 44 ?hg (N := 18) ?hd (xs := ([] : List (S44))) (inner := []) (ok := fun _ => True) (okp := fun _ => True) ?hr ?hp (fun _ hk => hk) trivial (Below.refl _ _) (Nat.le_refl _) (by simp) ?_; (case hd => rfl); (case hg => rfl); (case hr => first | (go_simp; done) | (go_simp; rfl)); (case hp => exact (Reps.none _ _)); intro v608 w14 ho15 hb hg_ hnew_; clear hg_ hnew_; (first | rw [← Ny607.out] at ho15 | (simp only [Int.reduceToNat] at ho15; rw [← Ny607.out] at ho15)); replace HO600 := sb_ HO600 hb; replace HO603 := rb_ HO603 hb; replace HO606 := rb_ HO606 hb; have HO609 := rl_ w ho15; replace BK597 := bb_ BK597 hb; replace HB := b1_ hb; clear hb ho15))
  go_loopg [6, 21] k (fun kq v6 v21 w' => ∃ (x5_1 : List Bool) (x6_1 : List (S44)) (x21_1 : Int), v21 = .int .i64 x21_1 ∧ Aside0 (spec_l08Cylinders.l0 kq t601 x5_1 x6_1 t598 (t598.length : Int) x21_1 = some r) ∧ Aside0 (kq ≤ k) ∧ Aside0 (Kd.R (Kd.int .i64) 3 w' w.heap.size (fun _ => True) v602 t601) ∧ Aside0 (Kd.R Kd.bool 4 w' w.heap.size (fun _ => True) v605 x5_1) ∧ Aside0 (Kd.R k44 44 w' w.heap.size (fun _ => True) v6 x6_1) ∧ Aside0 (Kd.S (Kd.slice 3 (Kd.int .i64)) 22 w' w.heap.size (fun k_ => some k_ ≠ (v602 : Value).ownBlock) (.slice Ao10 t598.length co10) t598) ∧ Aside0 (w'.heap[gb597]? = some (.cells #[(.slice A0_0 l0_0.length c0_0), (.slice A0_1 l0_1.length c0_1)] 27 (0, 0))) ∧ Aside0 (Below w.heap.size w w'))
  case atStart => exact ⟨(y604), (y607), (0), qc_, H', ⟨Nat.le_refl _⟩, ⟨(rr_ HO603)⟩, ⟨(rr_ HO606)⟩, ⟨(rr_ HO609)⟩, ⟨(sw_ (Kd.S_mono HO600.out (fun _ hk => hk.2)))⟩, ⟨(kk_ BK597)⟩, ⟨hB_⟩⟩
  case round =>
    clear H'
    obtain ⟨x5_1, x6_1, x21_1, rfl, HA, HK1, HO_4, HO_5, HO_6, HO_19, BK597, HB⟩ := hrel
    cases gk with
    | zero => exact absurd HA.out (by simp [spec_l08Cylinders.l0])
    | succ k1 =>
      have H := HA.out
      clear HA
      simp only [spec_l08Cylinders.l0] at H
      by_cases c16 : x21_1 < (t598.length : Int)
      · rw [if_pos c16] at H
        have c16b0 := decide_eq_true c16
        clear c16
        have c17 := cp_ H
        replace H := ca_ H
        have c17b0 := decide_eq_true c17
        clear c17
        have c18 := cp_ H
        replace H := ca_ H
        have c18b0 := decide_eq_true c18
        clear c18
        have c19 := cp_ H
        replace H := ca_ H
        have c19b0 := decide_eq_true c19
        clear c19
        obtain ⟨bq20, hbq20⟩ : ∃ b_ : Bool, b_ = (rdOf false x5_1 x21_1) := ⟨_, rfl⟩
        replace H : (if bq20 = true then (spec_l08Cylinders.l0 k1 t601 x5_1 x6_1 t598 (t598.length : Int) (wrap64 (x21_1 + 1))) else ((spec_l08Mark.f k1 t601 x21_1 x5_1).bind fun bt612 => (if x6_1.length < 8796093022208 then (spec_l08Cylinders.l0 k1 t601 bt612.2 (x6_1 ++ [(⟨((rd_L1 t598 x21_1).length : Int), bt612.1⟩ : S44)]) t598 (t598.length : Int) (wrap64 (x21_1 + 1))) else (none)))) = some r := by rw [← hbq20] at H; exact H
        have Nbq20 := Aside0.mk hbq20
        clear hbq20
        by_cases c21 : bq20 = true
        · subst c21
          rw [if_pos rfl] at H
          have H' := Aside0.mk H
          clear H
          have p610 : 0 ≤ (x21_1 : Int) := of_decide_eq_true qe_
          have q610 : x21_1 < (t598.length : Int) := of_decide_eq_true qe_
          obtain ⟨ad610, A610_0, c610_0, e610, hx610_0, hl610_0, hi610_0⟩ := at_L1 (Kd.S_reads' HO_19.out).2.2 x21_1 p610 q610
          cases e610
          obtain ⟨ce610, hce610, hMe610, hcc610⟩ := Kd.S_get HO_19.out [] x21_1 p610 (by first | exact q610 | exact of_decide_eq_true qe_ | (have e_ := (Kd.S_reads' HO_19.out).1; omega))
          obtain ⟨ve610_0, rfl, ge610_0⟩ := hMe610
          have hv610_0 := hcc610 0 _ rfl
          rw [Nat.add_zero, show ((Kd.slice 3 (Kd.int .i64))).sz = 1 from rfl, Nat.mul_one] at hv610_0
          replace hv610_0 := Option.some.inj (hv610_0.symm.trans hx610_0)
          rw [hv610_0] at ge610_0
          have HL610_0 := Aside0.mk (show Kd.R (Kd.int .i64) 3 _ _ _ _ (rd_L1 t598 x21_1) from ge610_0)
          clear hv610_0 ge610_0
          clear hcc610 hce610
          have HR610_0 := Aside0.mk hi610_0
          have HC610_0 := Aside0.mk hl610_0
          clear hi610_0 hl610_0
          replace p610 := eq_true p610
          replace q610 := eq_true q610
          obtain ⟨Ao22, co22, eo22⟩ := Kd.R_slice HO_5.out
          subst eo22
          have p611 : 0 ≤ (x21_1 : Int) := of_decide_eq_true qe_
          have q611 : x21_1 < (x5_1.length : Int) := of_decide_eq_true qe_
          obtain ⟨ad611, e611, hx611_0⟩ := Kd.at_bool (Kd.R_reads' HO_5.out).2.2 x21_1 p611 q611
          (try rw [← Nbq20.out] at hx611_0)
          cases e611
          replace p611 := eq_true p611
          replace q611 := eq_true q611
          go_wp2
          go_roundg k1
          case measure => have := HK1.out; omega
          case rel => exact ⟨(x5_1), (x6_1), (wrap64 (x21_1 + 1)), qc_, H', ⟨by have := HK1.out; omega⟩, ⟨(rr_ HO_4)⟩, ⟨(rr_ HO_5)⟩, ⟨(rr_ HO_6)⟩, ⟨(ss_ HO_19)⟩, ⟨(kk_ BK597)⟩, ⟨hB_⟩⟩
        · replace c21 := Bool.eq_false_iff.mpr c21
          subst c21
          have H1 : ((spec_l08Mark.f k1 t601 x21_1 x5_1).bind fun bt612 => (if x6_1.length < 8796093022208 then (spec_l08Cylinders.l0 k1 t601 bt612.2 (x6_1 ++ [(⟨((rd_L1 t598 x21_1).length : Int), bt612.1⟩ : S44)]) t598 (t598.length : Int) (wrap64 (x21_1 + 1))) else (none))) = some r := by rw [if_neg (show ¬ (false = true) by decide)] at H; exact H
          clear H
          have H := H1
          clear H1
          obtain ⟨⟨t612, t613⟩, A23, H⟩ := bi_ H
          try dsimp only at H
          have c24 := cp_ H
          replace H := ca_ H
          have LMc24 := Aside0.mk c24
          clear c24
          obtain ⟨y614, hy614⟩ : ∃ y_ : List (S44), y_ = (x6_1 ++ [(⟨((rd_L1 t598 x21_1).length : Int), t612⟩ : S44)]) := ⟨_, rfl⟩
          replace H : (spec_l08Cylinders.l0 k1 t601 t613 y614 t598 (t598.length : Int) (wrap64 (x21_1 + 1))) = some r := by first | (rw [hy614]; exact H) | exact H
          have Ny614 := Aside0.mk hy614
          clear hy614
          have H' := Aside0.mk H
          clear H
          have p610 : 0 ≤ (x21_1 : Int) := of_decide_eq_true qe_
          have q610 : x21_1 < (t598.length : Int) := of_decide_eq_true qe_
          obtain ⟨ad610, A610_0, c610_0, e610, hx610_0, hl610_0, hi610_0⟩ := at_L1 (Kd.S_reads' HO_19.out).2.2 x21_1 p610 q610
          cases e610
          obtain ⟨ce610, hce610, hMe610, hcc610⟩ := Kd.S_get HO_19.out [] x21_1 p610 (by first | exact q610 | exact of_decide_eq_true qe_ | (have e_ := (Kd.S_reads' HO_19.out).1; omega))
          obtain ⟨ve610_0, rfl, ge610_0⟩ := hMe610
          have hv610_0 := hcc610 0 _ rfl
          rw [Nat.add_zero, show ((Kd.slice 3 (Kd.int .i64))).sz = 1 from rfl, Nat.mul_one] at hv610_0
          replace hv610_0 := Option.some.inj (hv610_0.symm.trans hx610_0)
          rw [hv610_0] at ge610_0
          have HL610_0 := Aside0.mk (show Kd.R (Kd.int .i64) 3 _ _ _ _ (rd_L1 t598 x21_1) from ge610_0)
          clear hv610_0 ge610_0
          clear hcc610 hce610
          have HR610_0 := Aside0.mk hi610_0
          have HC610_0 := Aside0.mk hl610_0
          clear hi610_0 hl610_0
          replace p610 := eq_true p610
          replace q610 := eq_true q610
          obtain ⟨Ao25, co25, eo25⟩ := Kd.R_slice HO_5.out
          subst eo25
          have p611 : 0 ≤ (x21_1 : Int) := of_decide_eq_true qe_
          have q611 : x21_1 < (x5_1.length : Int) := of_decide_eq_true qe_
          obtain ⟨ad611, e611, hx611_0⟩ := Kd.at_bool (Kd.R_reads' HO_5.out).2.2 x21_1 p611 q611
          (try rw [← Nbq20.out] at hx611_0)
          cases e611
          replace p611 := eq_true p611
          replace q611 := eq_true q611
          obtain ⟨Ao26, co26, eo26⟩ := Kd.R_slice HO_4.out
          subst eo26
          go_wp2_with (first | ((with_reducible refine gate_callee (f := 113) rfl ?_); refine gL_ (some 37) Try.func113 #[.slice Ao26 t601.length co26, .int .i64 x21_1, .slice (some ad611) x5_1.length co25] rfl qa_ ?_; (with_reducible refine (spec_l08Mark.calls k1 _ _ t601 x21_1 (fun k_ => some k_ = (.slice (some ad611) x5_1.length co25 : Value).ownBlock) (.slice (some ad611) x5_1.length co25) x5_1 t612 t613 w _ ?side1 ?side2 ?side3 ?side4 A23.out).mono ?_); (case side1 => repeat (first | (with_reducible first | exact HB.out | apply below_alloc | apply pw_below_drewN | apply below_drew1 | refine below_set ?_ GE597.out) | exact HB.out)); (case side2 => exact Kd.C_kept_own ((Kd.R_apart' HO_4.out (Kd.R_typed HO_5.out) (by decide))) (fun k_ hk_ hs_ => (hk_.2) hs_)); (case side3 => exact (Kd.R_reads' HO_4.out).2.1); (case side4 => exact Kd.R_tight rfl HO_5.out); rintro e w27 ⟨rfl, hy0, hb, hkp⟩; refine ⟨_, rfl, ?_⟩; replace HO_4 := Aside0.mk (Kd.R_mono (ok' := fun k_ => True) (Kd.R_keptB ((Kd.R_apart' HO_4.out (Kd.R_typed HO_5.out) (by decide))) hkp (fun k_ hk_ hs_ => (hk_.2) hs_)) (fun k_ hk_ => trivial)); replace HO_6 := Aside0.mk (Kd.R_mono (ok' := fun k_ => True) (Kd.R_keptB ((Kd.R_apart' HO_6.out (Kd.R_typed HO_5.out) (by decide))) hkp (fun k_ hk_ hs_ => (hk_.2) hs_)) (fun k_ hk_ => trivial)); replace HO_19 := Aside0.mk (Kd.S_mono (ok' := fun k_ => some k_ ≠ (.slice Ao26 t601.length co26 : Value).ownBlock) (Kd.S_keptB ((Kd.S_apart' HO_19.out (Kd.R_typed HO_5.out) (by decide))) hkp (fun k_ hk_ hs_ => (hk_.2) hs_)) (fun k_ hk_ => hk_.1.1)); replace BK597 := Aside0.mk (blk_kept (kk_ BK597) hkp (fun hs_ => (fun e_ => (Kd.R_ne HO_5.out BK597.out (by decide)) e_) hs_)); replace HO_5 := Aside0.mk (Kd.R_reok rfl hy0 (fun k_ e_ => HO_5.out.1 k_ e_)); replace HB := Aside0.mk hb; clear HL610_0; clear hb hkp hy0) | ((with_reducible refine gate_builtin (b := .append) (xs := #[.tmp 31, .tmp 39]) rfl ?_); at_builtin; refine Kd.R_append k44 (w0 := w) w.heap.size rfl (.tmp 31) (.tmp 39) 31 44 (.agg #[(.int .i64 0), (.int .i64 0)]) 16 rfl Try.underlying31 info44 rfl (by decide) (by omega) u6 x6_1 (⟨((rd_L1 t598 x21_1).length : Int), t612⟩ : S44) [.int .i64 ((rd_L1 t598 x21_1).length : Int), .int .i64 t612] (fun _ => True) (fun _ => False) rfl rfl ?aP (fun _ hk => hk.elim) ?aF ?aO ?aB ?aS ?aL ?_; (case aP => exact k44_mkM _ _ _ (⟨((rd_L1 t598 x21_1).length : Int), t612⟩ : S44)); (case aB => exact hB_); (case aF => exact (fun _ _ => trivial)); (case aO => exact (rr_ HO_6)); (case aS => exact (below_size hB_)); (case aL => have := LMc24.out; omega); intro v615 w28 ho hb hg hat; rw [← Ny614.out] at ho; replace HO_4 := Aside0.mk (Kd.R_over' (rr_ HO_4) (Kd.R_typed (rr_ HO_6)) (by decide) hg); replace HO_5 := Aside0.mk (Kd.R_over' (rr_ HO_5) (Kd.R_typed (rr_ HO_6)) (by decide) hg); replace HO_19 := Aside0.mk (Kd.S_over' (ss_ HO_19) (Kd.R_typed (rr_ HO_6)) (by decide) hg); replace BK597 := Aside0.mk (blk_grown (kk_ BK597) hg (Kd.R_ne HO_6.out BK597.out (by decide))); replace HB := Aside0.mk hb; have HO616 := Aside0.mk ho; clear HO_6; clear ho hb hg hat))
          go_roundg k1
          case measure => have := HK1.out; omega
          case rel => exact ⟨(t613), (y614), (wrap64 (x21_1 + 1)), qc_, H', ⟨by have := HK1.out; omega⟩, ⟨(rr_ HO_4)⟩, ⟨(rr_ HO_5)⟩, ⟨(rr_ HO616)⟩, ⟨(ss_ HO_19)⟩, ⟨(kk_ BK597)⟩, ⟨hB_⟩⟩
      · rw [if_neg c16] at H
        have c16b0 := decide_eq_false c16
        clear c16
        obtain rfl := Option.some.inj H
        go_wp2
        go_ret
        exact ⟨_, qb_, (rr_ HO_6), hB_⟩
end Go.Proofs.Ytbdnellgioimbaa.A
end
section
namespace Go.Proofs.Ytbdnellgioimbaa.A
open Go.RowKit Go.Proofs.YtbdnellgioimbaaW.PrintWords Go.Proofs.YtbdnellgioimbaaW.PrintLast Go.Proofs.YtbdnellgioimbaaW.PrintMore
attribute [local go_sem] max2_int min2_int max_two min_two max_three min_three max_four min_four
set_option linter.unusedVariables false
set_option linter.unusedSimpArgs false
def spec_l08Gcd.l0 : Nat → Int → Int → Option (Int)
  | 0, _, _ => none
  | k + 1, x0, x1 => if x1 = 0 then (some x0) else (spec_l08Gcd.l0 k x1 (Int.tmod x0 x1))
def spec_l08Gcd.f (k : Nat) (a0 : Int) (a1 : Int) : Option (Int) := spec_l08Gcd.l0 k a0 a1
theorem spec_l08Gcd.mono_l : ∀ k, (∀ y0 y1, LeO (spec_l08Gcd.l0 k y0 y1) (spec_l08Gcd.l0 (k + 1) y0 y1))
  | 0 => fun _ _ r h => by simp [spec_l08Gcd.l0] at h
  | k + 1 => by
    have ih0 := spec_l08Gcd.mono_l k
    · intro y0 y1
      unfold spec_l08Gcd.l0
      repeat' first|exact ih0 _ _|exact lo_|refine LeO.ite ?_ ?_|refine LeO.bind ?_ (fun _ => ?_)
theorem spec_l08Gcd.mono : ∀ a0 a1 k, LeO (spec_l08Gcd.f k a0 a1) (spec_l08Gcd.f (k + 1) a0 a1) := by
  intro a0 a1 k
  have ih0 := spec_l08Gcd.mono_l k
  unfold spec_l08Gcd.f
  repeat' first|exact ih0 _ _|exact lo_|refine LeO.ite ?_ ?_|refine LeO.bind ?_ (fun _ => ?_)
set_option maxHeartbeats 8000000 in
set_option maxRecDepth 100000 in
theorem spec_l08Gcd.calls (k : Nat) (a0 : Int) (a1 : Int) (r : Int) (w : World) (h : spec_l08Gcd.f k a0 a1 = some r) :
    Calls Try.prog 69 #[.int .i64 a0, .int .i64 a1] w fun e w' => e = .returned (.int .i64 r) ∧ Drawn0 w w' := by
  have H := h
  unfold spec_l08Gcd.f at H
  clear h
  have H' := Aside0.mk H
  clear H
  go_enter Try.func69, Try.ntmps69
  go_wp2
  go_loopg [0, 1] k (fun kq v0 v1 w' => ∃ (x0_1 : Int) (x1_1 : Int), v0 = .int .i64 x0_1 ∧ v1 = .int .i64 x1_1 ∧ Aside0 (spec_l08Gcd.l0 kq x0_1 x1_1 = some r) ∧ Aside0 (kq ≤ k) ∧ Drawn0 w w')
  case atStart => exact ⟨(a0), (a1), qc_, qc_, H', ⟨Nat.le_refl _⟩, by repeat (first | exact Drawn0.refl _ | apply Drawn0.step)⟩
  case round =>
    clear H'
    obtain ⟨x0_1, x1_1, rfl, rfl, HA, HK1, ⟨m1, rfl⟩⟩ := hrel
    cases gk with
    | zero => exact absurd HA.out (by simp [spec_l08Gcd.l0])
    | succ k1 =>
      have H := HA.out
      clear HA
      simp only [spec_l08Gcd.l0] at H
      by_cases c3 : x1_1 = 0
      · rw [if_pos c3] at H
        have c3b0 : (x1_1 == 0) = true := beq_iff_eq.mpr c3
        have c3b1 : (x1_1 != 0) = false := bne_eq_false_iff_eq.mpr c3
        clear c3
        obtain rfl := Option.some.inj H
        go_wp2
        go_ret
        exact ⟨qc_, by repeat (first | exact Drawn0.refl _ | apply Drawn0.step)⟩
      · rw [if_neg c3] at H
        have c3b0 : (x1_1 == 0) = false := beq_eq_false_iff_ne.mpr c3
        have c3b1 : (x1_1 != 0) = true := bne_iff_ne.mpr c3
        have H' := Aside0.mk H
        clear H
        go_wp2
        go_roundg k1
        case measure => have := HK1.out; omega
        case rel => exact ⟨(x1_1), (Int.tmod x0_1 x1_1), qc_, qc_, H', ⟨by have := HK1.out; omega⟩, by repeat (first | exact Drawn0.refl _ | apply Drawn0.step)⟩
end Go.Proofs.Ytbdnellgioimbaa.A
end
section
namespace Go.Proofs.Ytbdnellgioimbaa.A
open Go.RowKit Go.Proofs.YtbdnellgioimbaaW.PrintWords Go.Proofs.YtbdnellgioimbaaW.PrintLast Go.Proofs.YtbdnellgioimbaaW.PrintMore
attribute [local go_sem] max2_int min2_int max_two min_two max_three min_three max_four min_four
set_option linter.unusedVariables false
set_option linter.unusedSimpArgs false
def spec_SlopeOk.f (k : Nat) (a0 : Int) (a1 : Int) : Option (Bool) := (spec_l01In.f a0 0 12).bind fun t956 => (if t956 = true then ((spec_l01In.f a1 0 12).bind fun t957 => (if t957 = true then (if (wrap64 (a0 + a1)) ≤ 12 then ((spec_l08Gcd.f k a0 a1).bind fun t958 => (some (t958 == 1))) else (some false)) else (some false))) else (some false))
theorem spec_SlopeOk.mono : ∀ a0 a1 k, LeO (spec_SlopeOk.f k a0 a1) (spec_SlopeOk.f (k + 1) a0 a1) := by
  intro a0 a1 k
  unfold spec_SlopeOk.f
  repeat' first|exact spec_l08Gcd.mono _ _ _|exact lo_|refine LeO.ite ?_ ?_|refine LeO.bind ?_ (fun _ => ?_)
set_option maxHeartbeats 8000000 in
set_option maxRecDepth 100000 in
theorem spec_SlopeOk.calls (k : Nat) (a0 : Int) (a1 : Int) (r : Bool) (w : World) (h : spec_SlopeOk.f k a0 a1 = some r) :
    Calls Try.prog 89 #[.int .i64 a0, .int .i64 a1] w fun e w' => e = .returned (.bool r) ∧ Drawn0 w w' := by
  have H := h
  unfold spec_SlopeOk.f at H
  clear h
  obtain ⟨t956, A3, H⟩ := bi_ H
  by_cases c4 : t956 = true
  · subst c4
    rw [if_pos rfl] at H
    obtain ⟨t957, A5, H⟩ := bi_ H
    by_cases c6 : t957 = true
    · subst c6
      rw [if_pos rfl] at H
      by_cases c7 : (wrap64 (a0 + a1)) ≤ 12
      · rw [if_pos c7] at H
        have c7b0 := decide_eq_true c7
        clear c7
        obtain ⟨t958, A8, H⟩ := bi_ H
        obtain rfl := Option.some.inj H
        go_enter Try.func89, Try.ntmps89
        go_wp2_with (first | ((with_reducible refine gate_callee (f := 115) rfl ?_); refine gL_ (some 6) Try.func115 #[.int .i64 a0, .int .i64 0, .int .i64 12] rfl qa_ ?_; (with_reducible refine (spec_l01In.calls a0 0 12 true _ A3.out).mono ?_); rintro e w' ⟨rfl, ⟨nd, rfl⟩⟩; refine ⟨_, rfl, ?_⟩) | (go_at_call 115; (with_reducible refine (spec_l01In.calls a1 0 12 true _ A5.out).mono ?_); rintro e w' ⟨rfl, ⟨nd, rfl⟩⟩) | (go_at_call 69; (with_reducible refine (spec_l08Gcd.calls k a0 a1 t958 _ A8.out).mono ?_); rintro e w' ⟨rfl, ⟨nd, rfl⟩⟩))
        go_ret
        exact ⟨qc_, by repeat (first | exact Drawn0.refl _ | apply Drawn0.step)⟩
      · rw [if_neg c7] at H
        have c7b0 := decide_eq_false c7
        clear c7
        obtain rfl := Option.some.inj H
        go_enter Try.func89, Try.ntmps89
        go_wp2_with (first | ((with_reducible refine gate_callee (f := 115) rfl ?_); refine gL_ (some 6) Try.func115 #[.int .i64 a0, .int .i64 0, .int .i64 12] rfl qa_ ?_; (with_reducible refine (spec_l01In.calls a0 0 12 true _ A3.out).mono ?_); rintro e w' ⟨rfl, ⟨nd, rfl⟩⟩; refine ⟨_, rfl, ?_⟩) | (go_at_call 115; (with_reducible refine (spec_l01In.calls a1 0 12 true _ A5.out).mono ?_); rintro e w' ⟨rfl, ⟨nd, rfl⟩⟩))
        go_ret
        exact ⟨qc_, by repeat (first | exact Drawn0.refl _ | apply Drawn0.step)⟩
    · replace c6 := Bool.eq_false_iff.mpr c6
      subst c6
      have H1 : (some false) = some r := by rw [if_neg (show ¬ (false = true) by decide)] at H; exact H
      clear H
      have H := H1
      clear H1
      obtain rfl := Option.some.inj H
      go_enter Try.func89, Try.ntmps89
      go_wp2_with (first | ((with_reducible refine gate_callee (f := 115) rfl ?_); refine gL_ (some 6) Try.func115 #[.int .i64 a0, .int .i64 0, .int .i64 12] rfl qa_ ?_; (with_reducible refine (spec_l01In.calls a0 0 12 true _ A3.out).mono ?_); rintro e w' ⟨rfl, ⟨nd, rfl⟩⟩; refine ⟨_, rfl, ?_⟩) | (go_at_call 115; (with_reducible refine (spec_l01In.calls a1 0 12 false _ A5.out).mono ?_); rintro e w' ⟨rfl, ⟨nd, rfl⟩⟩))
      go_ret
      exact ⟨qc_, by repeat (first | exact Drawn0.refl _ | apply Drawn0.step)⟩
  · replace c4 := Bool.eq_false_iff.mpr c4
    subst c4
    have H1 : (some false) = some r := by rw [if_neg (show ¬ (false = true) by decide)] at H; exact H
    clear H
    have H := H1
    clear H1
    obtain rfl := Option.some.inj H
    go_enter Try.func89, Try.ntmps89
    go_wp2_with (first | ((with_reducible refine gate_callee (f := 115) rfl ?_); refine gL_ (some 6) Try.func115 #[.int .i64 a0, .int .i64 0, .int .i64 12] rfl qa_ ?_; (with_reducible refine (spec_l01In.calls a0 0 12 false _ A3.out).mono ?_); rintro e w' ⟨rfl, ⟨nd, rfl⟩⟩; refine ⟨_, rfl, ?_⟩))
    go_ret
    exact ⟨qc_, by repeat (first | exact Drawn0.refl _ | apply Drawn0.step)⟩
end Go.Proofs.Ytbdnellgioimbaa.A
end
section
namespace Go.Proofs.Ytbdnellgioimbaa.A
open Go.RowKit Go.Proofs.YtbdnellgioimbaaW.PrintWords Go.Proofs.YtbdnellgioimbaaW.PrintLast Go.Proofs.YtbdnellgioimbaaW.PrintMore
attribute [local go_sem] max2_int min2_int max_two min_two max_three min_three max_four min_four
set_option linter.unusedVariables false
set_option linter.unusedSimpArgs false
def spec_l05Shear.f (k : Nat) (l0_0 : List Int) (l0_1 : List Int) : Option (List Int × List Int) := (some (([] : List Int) : List Int)).bind fun y812 => (if y812.length + l0_0.length < 17592186044416 then ((spec_l02Inverse.f k l0_0).bind fun t818 => ((spec_l02Then.f k t818 l0_1).bind fun t821 => (some ((y812 ++ l0_0), t821)))) else (none))
theorem spec_l05Shear.mono : ∀ a0 a1 k, LeO (spec_l05Shear.f k a0 a1) (spec_l05Shear.f (k + 1) a0 a1) := by
  intro a0 a1 k
  unfold spec_l05Shear.f
  repeat' first|exact spec_l02Inverse.mono _ _|exact spec_l02Then.mono _ _ _|exact lo_|refine LeO.ite ?_ ?_|refine LeO.bind ?_ (fun _ => ?_)
def spec_l05Shear.T1 : Bool × List (List Nat × List Nat) := (true, [([], []), ([], []), ([1], [1]), ([0, 2], [0, 2]), ([], []), ([4], [4]), ([5, 3], [5]), ([], []), ([7], [7]), ([6, 8, 6], [6, 8]), ([3, 9], [3, 9]), ([10, 9, 0, 1, 2, 3, 4, 5, 6, 7, 8, 9, 10], [10])])
def spec_l05Shear.B1 : List Nat := [0, 0, 2, 7, 0, 16, 63, 0, 128, 511, 1023, 2047]
theorem spec_l05Shear.tab1 : rtab .any (opsOf Try.f74 1) = spec_l05Shear.T1 := by kernel_rfl
theorem spec_l05Shear.bits1 : waitsOk spec_l05Shear.T1.2 spec_l05Shear.B1 = true := by kernel_rfl
set_option maxHeartbeats 8000000 in
set_option maxRecDepth 100000 in
theorem spec_l05Shear.calls (k : Nat) (A0_0 : Option Addr) (c0_0 : Nat) (l0_0 : List Int) (A0_1 : Option Addr) (c0_1 : Nat) (l0_1 : List Int) (r1 : List Int) (r2 : List Int) (w : World) (hr0_0 : Kd.C (Kd.int .i64) w A0_0 l0_0.length l0_0) (hc0_0 : l0_0.length ≤ c0_0) (hr0_1 : Kd.C (Kd.int .i64) w A0_1 l0_1.length l0_1) (hc0_1 : l0_1.length ≤ c0_1) (h : spec_l05Shear.f k l0_0 l0_1 = some (r1, r2)) :
    Calls Try.prog 74 #[.agg #[.slice A0_0 l0_0.length c0_0, .slice A0_1 l0_1.length c0_1]] w fun e w' => ∃ v0_ v1_ : Value, e = .returned (.agg #[v0_, v1_]) ∧ Kd.R (Kd.int .i64) 3 w' w.heap.size (fun k_ => some k_ ≠ (v1_ : Value).ownBlock) v0_ r1 ∧ Kd.R (Kd.int .i64) 3 w' w.heap.size (fun k_ => some k_ ≠ (v0_ : Value).ownBlock) v1_ r2 ∧ Below w.heap.size w w' := by
  have hu27 := Try.underlying27
  have HR0_0 := Aside0.mk hr0_0
  have HC0_0 := Aside0.mk hc0_0
  clear hr0_0 hc0_0
  have HR0_1 := Aside0.mk hr0_1
  have HC0_1 := Aside0.mk hc0_1
  clear hr0_1 hc0_1
  have HB := Aside0.mk (Below.refl w.heap.size w)
  have H := h
  unfold spec_l05Shear.f at H
  clear h
  obtain ⟨y812, hy812⟩ : ∃ y_ : List Int, y_ = (([] : List Int)) := ⟨_, rfl⟩
  replace H : (if y812.length + l0_0.length < 17592186044416 then ((spec_l02Inverse.f k l0_0).bind fun t818 => ((spec_l02Then.f k t818 l0_1).bind fun t821 => (some ((y812 ++ l0_0), t821)))) else (none)) = some (r1, r2) := by first | (rw [hy812]; exact H) | exact H
  have Ny812 := Aside0.mk hy812
  clear hy812
  have c2 := cp_ H
  replace H := ca_ H
  have LMc2 := Aside0.mk c2
  clear c2
  obtain ⟨y815, hy815⟩ : ∃ y_ : List Int, y_ = (y812 ++ l0_0) := ⟨_, rfl⟩
  replace H : ((spec_l02Inverse.f k l0_0).bind fun t818 => ((spec_l02Then.f k t818 l0_1).bind fun t821 => (some (y815, t821)))) = some (r1, r2) := by first | (rw [hy815]; exact H) | exact H
  have Ny815 := Aside0.mk hy815
  clear hy815
  obtain ⟨t818, A3, H⟩ := bi_ H
  obtain ⟨t821, A4, H⟩ := bi_ H
  simp only [Option.some.injEq, Prod.mk.injEq] at H
  obtain ⟨rfl, rfl⟩ := H
  go_enter Try.func74, Try.ntmps74
  try go_wp2_with (first | ((with_reducible refine gate_dst (N := 1) rfl ?_); refine bx_ 1 #[.slice A0_0 l0_0.length c0_0, .slice A0_1 l0_1.length c0_1] 27 ?_; intro gb810 hg w5 hbox hb; have BK810 := Aside0.mk hbox; have GW810 := gw_ w hg; have GE810 := GW810; replace HB := b1_ hb; clear hb hbox hg) | ((with_reducible refine gate_dst (N := 2) rfl ?_); refine bx_ 2 #[.slice none 0 0, .slice none 0 0] 27 ?_; intro gb811 hg w6 hbox hb; have BK811 := Aside0.mk hbox; have GW811 := gw_ w hg; have GE811 := GW811; replace HB := b1_ hb; have NB810_811 := gN_ BK810 hg; have NB811_810 := gP_ BK810 hg; replace BK810 := bb_ BK810 hb; clear hb hbox hg))
  replace BK810 := Aside0.mk (blk_drew BK810.out)
  replace BK811 := Aside0.mk (blk_drew BK811.out)
  replace HB := Aside0.mk (below_drew1 HB.out)
  refine start_ (n := 12) (S := fun w' => w'.cell? ⟨gb810, 0, none⟩ = some (.slice A0_0 l0_0.length c0_0) ∧ w'.cell? ⟨gb810, 1, none⟩ = some (.slice A0_1 l0_1.length c0_1)) (ds := []) (bl_ 12 0) (by kernel_rfl) rfl (by kernel_rfl) ⟨cz0_ BK810, cz1_ BK810⟩ (fun hHeld => ?_); refine with_tabW spec_l05Shear.tab1 spec_l05Shear.bits1 (fun HT_ HW_ => ?_)
  generalize w6.drew = w7 at BK810 BK811 HB hHeld ⊢
  refine pu_ 1 (some 4) (bl_ 12 2) HT_ ?_
  refine pu_ 4 (some 7) (bl_ 12 18) HT_ ?_
  refine pu_ 7 (some 10) (bl_ 12 146) HT_ ?_
  refine ta_ 2 (some 5) (bl_ 12 150) HT_ HW_ hHeld ?_
  refine ta_ 5 (some 8) (bl_ 12 182) HT_ HW_ hHeld ?_
  refine ta_ 8 (some 11) (bl_ 12 438) HT_ HW_ hHeld ?_
  refine on_ 0 (some 3) (bl_ 12 439) HT_ (fun K hK => ?_)
  refine Kd.R_lit_step (Kd.int .i64) _ 3 ?hg (N := 3) ?hd (xs := ([] : List Int)) (inner := []) (ok := fun _ => True) (okp := fun _ => True) ?hr ?hp (fun _ hk => hk) trivial (Below.refl _ _) (Nat.le_refl _) (by simp) ?_; (case hd => rfl); (case hg => rfl); (case hr => first | (go_simp; done) | (go_simp; rfl)); (case hp => exact (Reps.none _ _))
  intro v813 w8 ho9 hb hg_ hnew_
  clear hg_ hnew_
  (first | rw [← Ny812.out] at ho9 | (simp only [Int.reduceToNat] at ho9; rw [← Ny812.out] at ho9))
  have HO814 := rl_ w ho9
  replace BK810 := bb_ BK810 hb
  replace BK811 := bb_ BK811 hb
  replace HB := b1_ hb
  clear hb ho9
  refine hK.out _ _ ⟨cz0_ BK810, cz1_ BK810⟩ (fun hHeld => ?_)
  clear hK K
  refine no_ (some 3) ?_
  refine on_ 3 (some 6) (bl_ 12 447) HT_ (fun K hK => ?_)
  refine Kd.R_append_rows_step (Kd.int .i64) (w0 := w) w.heap.size (by rfl) (.tmp 3) (.tmp 5) 22 3 (.int .i64 0) 8 rfl Try.underlying22 info3 rfl (by decide) (by omega) v813 y812 l0_0 _ _ _ (fun _ => True) (fun _ => False) rfl rfl ?aO ?aR (fun _ _ h => h) (fun _ h => h.elim) ?aF ?aB ?aS ?aL ?_
  (case aR => exact cb_ HR0_0)
  (case aB => exact hB_)
  (case aF => exact (fun _ _ => trivial))
  (case aO => exact (rr_ HO814))
  (case aS => exact (below_size hB_))
  (case aL => have := LMc2.out; omega)
  intro v816 w10 ho hb hg hat
  rw [← Ny815.out] at ho
  replace BK810 := Aside0.mk (blk_grown (kk_ BK810) hg (Kd.R_ne HO814.out BK810.out (by decide)))
  replace BK811 := Aside0.mk (blk_grown (kk_ BK811) hg (Kd.R_ne HO814.out BK811.out (by decide)))
  replace HB := Aside0.mk hb
  have HO817 := Aside0.mk ho
  clear HO814
  clear ho hb hg hat
  refine hK.out _ _ ⟨cz0_ BK810, cz1_ BK810⟩ (fun hHeld => ?_)
  clear hK K
  refine no_ (some 6) ?_
  refine on_ 6 (some 9) (bl_ 12 511) HT_ (fun K hK => ?_)
  refine gO_ Try.func116 #[.slice A0_0 l0_0.length c0_0] (by rfl) rfl rfl qa_ ?_
  with_reducible refine (spec_l02Inverse.calls k _ _ l0_0 t818 _ (cb_ HR0_0) HC0_0.out A3.out).mono ?_
  rintro e w11 ⟨v819, rfl, ho0, hb⟩
  refine ⟨_, rfl, ?_⟩
  have HO820 := Aside0.mk (Kd.R_lower (Kd.R_new' ho0 (Kd.R_lt (rr_ HO817))) (below_size hB_))
  replace HO817 := Aside0.mk (Kd.R_elder' (rr_ HO817) (Kd.R_base ho0) hb)
  replace BK810 := bb_ BK810 hb
  replace BK811 := bb_ BK811 hb
  replace HB := b1_ hb
  clear hb ho0
  obtain ⟨Ao12, co12, eo12⟩ := Kd.R_slice HO820.out
  (first | subst eo12 | (injection eo12 with f1_ f2_ f3_; have f4_ := f1_.symm; have f5_ := f3_.symm; clear f1_ f2_ f3_; subst f4_; subst f5_))
  refine hK.out _ _ ⟨cz0_ BK810, cz1_ BK810⟩ (fun hHeld => ?_)
  clear hK K
  refine no_ (some 9) ?_
  refine on_ 9 (some 12) (bl_ 12 1023) HT_ (fun K hK => ?_)
  refine gO_ Try.func102 #[.slice Ao12 t818.length co12, .slice A0_1 l0_1.length c0_1] (by rfl) rfl rfl qa_ ?_
  with_reducible refine (spec_l02Then.calls k _ _ t818 _ _ l0_1 t821 _ (cr_ HO820) ((Kd.R_reads' HO820.out).2.1) (cb_ HR0_1) HC0_1.out A4.out).mono ?_
  rintro e w13 ⟨v822, rfl, ho0, hb⟩
  refine ⟨_, rfl, ?_⟩
  have HO823 := Aside0.mk (Kd.R_lower (Kd.R_new' (Kd.R_new' ho0 (Kd.R_lt (rr_ HO817))) (Kd.R_lt (rr_ HO820))) (below_size hB_))
  replace HO817 := Aside0.mk (Kd.R_elder' (rr_ HO817) (Kd.R_base ho0) hb)
  replace HO820 := Aside0.mk (Kd.R_elder' (rr_ HO820) (Kd.R_base ho0) hb)
  replace BK810 := bb_ BK810 hb
  replace BK811 := bb_ BK811 hb
  replace HB := b1_ hb
  clear hb ho0
  obtain ⟨Ao14, co14, eo14⟩ := Kd.R_slice HO823.out
  (first | subst eo14 | (injection eo14 with f1_ f2_ f3_; have f4_ := f1_.symm; have f5_ := f3_.symm; clear f1_ f2_ f3_; subst f4_; subst f5_))
  obtain ⟨Ao15, co15, eo15⟩ := Kd.R_slice HO817.out
  (first | subst eo15 | (injection eo15 with f1_ f2_ f3_; have f4_ := f1_.symm; have f5_ := f3_.symm; clear f1_ f2_ f3_; subst f4_; subst f5_))
  refine hK.out _ _ ⟨cz0_ BK810, cz1_ BK810⟩ (fun hHeld => ?_)
  clear hK K
  refine no_ (some 12) ?_
  refine pu_ 10 (some 13) (bl_ 12 2047) HT_ ?_
  refine on_ 11 (none) (bl_ 12 4095) HT_ (fun K hK => ?_)
  have hs16 : w13.cell? ⟨gb811, 0, none⟩ = some (.slice none 0 0) := cz0_ BK811
  have hfs16 := blk_frozen BK811.out 0
  have hns16_0 := NB810_811.out
  have hms16_0 := NB811_810.out
  have hs17 : w13.cell? ⟨gb811, 1, none⟩ = some (.slice none 0 0) := cz1_ BK811
  have hfs17 := blk_frozen BK811.out 1
  have hns17_0 := NB810_811.out
  have hms17_0 := NB811_810.out
  refine skip_ (w1 := ?_) (by rfl) rfl ?_ ?_
  rotate_left
  · go_simp
    rfl
  refine hK.out _ _ ⟨((cell_far (p := ⟨gb811, _, none⟩) NB810_811.out _).trans (((cell_far (p := ⟨gb811, _, none⟩) NB810_811.out _).trans (hHeld.1)))), ((cell_far (p := ⟨gb811, _, none⟩) NB810_811.out _).trans (((cell_far (p := ⟨gb811, _, none⟩) NB810_811.out _).trans (hHeld.2))))⟩ (fun hHeld => ?_)
  clear hK K
  refine done_ (done_of HT_.out (by kernel_rfl)) ?_
  try go_wp2
  refine bodyPost_ret (results_cell_row rfl _ _ gb811 27 #[.slice Ao15 y815.length co15, .slice Ao14 t821.length co14] (0, 0) _ rfl qp_ Try.underlying27 rfl (by kernel_rfl)) rfl ?_
  exact ⟨_, _, qb_, (rw_ (Kd.R_mono (fa_ HO817 BK811) (fun _ hk => hk.2))), (rw_ (Kd.R_mono (fa_ HO823 BK811) (fun _ hk => hk.1.2))), hB_⟩
end Go.Proofs.Ytbdnellgioimbaa.A
end
section
namespace Go.Proofs.Ytbdnellgioimbaa.A
open Go.RowKit Go.Proofs.YtbdnellgioimbaaW.PrintWords Go.Proofs.YtbdnellgioimbaaW.PrintLast Go.Proofs.YtbdnellgioimbaaW.PrintMore
attribute [local go_sem] max2_int min2_int max_two min_two max_three min_three max_four min_four
set_option linter.unusedVariables false
set_option linter.unusedSimpArgs false
def spec_l05Unshear.f (k : Nat) (l0_0 : List Int) (l0_1 : List Int) : Option (List Int × List Int) := (some (([] : List Int) : List Int)).bind fun y1244 => (if y1244.length + l0_0.length < 17592186044416 then ((spec_l02Then.f k l0_0 l0_1).bind fun t1250 => (some ((y1244 ++ l0_0), t1250))) else (none))
theorem spec_l05Unshear.mono : ∀ a0 a1 k, LeO (spec_l05Unshear.f k a0 a1) (spec_l05Unshear.f (k + 1) a0 a1) := by
  intro a0 a1 k
  unfold spec_l05Unshear.f
  repeat' first|exact spec_l02Then.mono _ _ _|exact lo_|refine LeO.ite ?_ ?_|refine LeO.bind ?_ (fun _ => ?_)
def spec_l05Unshear.T1 : Bool × List (List Nat × List Nat) := (true, [([], []), ([], []), ([1], [1]), ([0, 2], [0, 2]), ([], []), ([4], [4]), ([], []), ([6], [6]), ([5, 7, 3], [5, 7]), ([3, 8], [3, 8]), ([9, 8, 0, 1, 2, 3, 4, 5, 6, 7, 8, 9], [9])])
def spec_l05Unshear.B1 : List Nat := [0, 0, 2, 7, 0, 16, 0, 64, 255, 511, 1023]
theorem spec_l05Unshear.tab1 : rtab .any (opsOf Try.f151 1) = spec_l05Unshear.T1 := by kernel_rfl
theorem spec_l05Unshear.bits1 : waitsOk spec_l05Unshear.T1.2 spec_l05Unshear.B1 = true := by kernel_rfl
set_option maxHeartbeats 8000000 in
set_option maxRecDepth 100000 in
theorem spec_l05Unshear.calls (k : Nat) (A0_0 : Option Addr) (c0_0 : Nat) (l0_0 : List Int) (A0_1 : Option Addr) (c0_1 : Nat) (l0_1 : List Int) (r1 : List Int) (r2 : List Int) (w : World) (hr0_0 : Kd.C (Kd.int .i64) w A0_0 l0_0.length l0_0) (hc0_0 : l0_0.length ≤ c0_0) (hr0_1 : Kd.C (Kd.int .i64) w A0_1 l0_1.length l0_1) (hc0_1 : l0_1.length ≤ c0_1) (h : spec_l05Unshear.f k l0_0 l0_1 = some (r1, r2)) :
    Calls Try.prog 151 #[.agg #[.slice A0_0 l0_0.length c0_0, .slice A0_1 l0_1.length c0_1]] w fun e w' => ∃ v0_ v1_ : Value, e = .returned (.agg #[v0_, v1_]) ∧ Kd.R (Kd.int .i64) 3 w' w.heap.size (fun k_ => some k_ ≠ (v1_ : Value).ownBlock) v0_ r1 ∧ Kd.R (Kd.int .i64) 3 w' w.heap.size (fun k_ => some k_ ≠ (v0_ : Value).ownBlock) v1_ r2 ∧ Below w.heap.size w w' := by
  have hu27 := Try.underlying27
  have HR0_0 := Aside0.mk hr0_0
  have HC0_0 := Aside0.mk hc0_0
  clear hr0_0 hc0_0
  have HR0_1 := Aside0.mk hr0_1
  have HC0_1 := Aside0.mk hc0_1
  clear hr0_1 hc0_1
  have HB := Aside0.mk (Below.refl w.heap.size w)
  have H := h
  unfold spec_l05Unshear.f at H
  clear h
  obtain ⟨y1244, hy1244⟩ : ∃ y_ : List Int, y_ = (([] : List Int)) := ⟨_, rfl⟩
  replace H : (if y1244.length + l0_0.length < 17592186044416 then ((spec_l02Then.f k l0_0 l0_1).bind fun t1250 => (some ((y1244 ++ l0_0), t1250))) else (none)) = some (r1, r2) := by first | (rw [hy1244]; exact H) | exact H
  have Ny1244 := Aside0.mk hy1244
  clear hy1244
  have c2 := cp_ H
  replace H := ca_ H
  have LMc2 := Aside0.mk c2
  clear c2
  obtain ⟨y1247, hy1247⟩ : ∃ y_ : List Int, y_ = (y1244 ++ l0_0) := ⟨_, rfl⟩
  replace H : ((spec_l02Then.f k l0_0 l0_1).bind fun t1250 => (some (y1247, t1250))) = some (r1, r2) := by first | (rw [hy1247]; exact H) | exact H
  have Ny1247 := Aside0.mk hy1247
  clear hy1247
  obtain ⟨t1250, A3, H⟩ := bi_ H
  simp only [Option.some.injEq, Prod.mk.injEq] at H
  obtain ⟨rfl, rfl⟩ := H
  go_enter Try.func151, Try.ntmps151
  try go_wp2_with (first | ((with_reducible refine gate_dst (N := 1) rfl ?_); refine bx_ 1 #[.slice A0_0 l0_0.length c0_0, .slice A0_1 l0_1.length c0_1] 27 ?_; intro gb1242 hg w4 hbox hb; have BK1242 := Aside0.mk hbox; have GW1242 := gw_ w hg; have GE1242 := GW1242; replace HB := b1_ hb; clear hb hbox hg) | ((with_reducible refine gate_dst (N := 2) rfl ?_); refine bx_ 2 #[.slice none 0 0, .slice none 0 0] 27 ?_; intro gb1243 hg w5 hbox hb; have BK1243 := Aside0.mk hbox; have GW1243 := gw_ w hg; have GE1243 := GW1243; replace HB := b1_ hb; have NB1242_1243 := gN_ BK1242 hg; have NB1243_1242 := gP_ BK1242 hg; replace BK1242 := bb_ BK1242 hb; clear hb hbox hg))
  replace BK1242 := Aside0.mk (blk_drew BK1242.out)
  replace BK1243 := Aside0.mk (blk_drew BK1243.out)
  replace HB := Aside0.mk (below_drew1 HB.out)
  refine start_ (n := 11) (S := fun w' => w'.cell? ⟨gb1242, 0, none⟩ = some (.slice A0_0 l0_0.length c0_0) ∧ w'.cell? ⟨gb1242, 1, none⟩ = some (.slice A0_1 l0_1.length c0_1)) (ds := []) (bl_ 11 0) (by kernel_rfl) rfl (by kernel_rfl) ⟨cz0_ BK1242, cz1_ BK1242⟩ (fun hHeld => ?_); refine with_tabW spec_l05Unshear.tab1 spec_l05Unshear.bits1 (fun HT_ HW_ => ?_)
  generalize w5.drew = w6 at BK1242 BK1243 HB hHeld ⊢
  refine pu_ 1 (some 4) (bl_ 11 2) HT_ ?_
  refine pu_ 4 (some 7) (bl_ 11 18) HT_ ?_
  refine pu_ 6 (some 9) (bl_ 11 82) HT_ ?_
  refine ta_ 2 (some 5) (bl_ 11 86) HT_ HW_ hHeld ?_
  refine ta_ 5 (some 8) (bl_ 11 118) HT_ HW_ hHeld ?_
  refine ta_ 7 (some 10) (bl_ 11 246) HT_ HW_ hHeld ?_
  refine on_ 0 (some 3) (bl_ 11 247) HT_ (fun K hK => ?_)
  refine Kd.R_lit_step (Kd.int .i64) _ 3 ?hg (N := 3) ?hd (xs := ([] : List Int)) (inner := []) (ok := fun _ => True) (okp := fun _ => True) ?hr ?hp (fun _ hk => hk) trivial (Below.refl _ _) (Nat.le_refl _) (by simp) ?_; (case hd => rfl); (case hg => rfl); (case hr => first | (go_simp; done) | (go_simp; rfl)); (case hp => exact (Reps.none _ _))
  intro v1245 w7 ho8 hb hg_ hnew_
  clear hg_ hnew_
  (first | rw [← Ny1244.out] at ho8 | (simp only [Int.reduceToNat] at ho8; rw [← Ny1244.out] at ho8))
  have HO1246 := rl_ w ho8
  replace BK1242 := bb_ BK1242 hb
  replace BK1243 := bb_ BK1243 hb
  replace HB := b1_ hb
  clear hb ho8
  refine hK.out _ _ ⟨cz0_ BK1242, cz1_ BK1242⟩ (fun hHeld => ?_)
  clear hK K
  refine no_ (some 3) ?_
  refine on_ 3 (some 6) (bl_ 11 255) HT_ (fun K hK => ?_)
  refine Kd.R_append_rows_step (Kd.int .i64) (w0 := w) w.heap.size (by rfl) (.tmp 3) (.tmp 5) 22 3 (.int .i64 0) 8 rfl Try.underlying22 info3 rfl (by decide) (by omega) v1245 y1244 l0_0 _ _ _ (fun _ => True) (fun _ => False) rfl rfl ?aO ?aR (fun _ _ h => h) (fun _ h => h.elim) ?aF ?aB ?aS ?aL ?_
  (case aR => exact cb_ HR0_0)
  (case aB => exact hB_)
  (case aF => exact (fun _ _ => trivial))
  (case aO => exact (rr_ HO1246))
  (case aS => exact (below_size hB_))
  (case aL => have := LMc2.out; omega)
  intro v1248 w9 ho hb hg hat
  rw [← Ny1247.out] at ho
  replace BK1242 := Aside0.mk (blk_grown (kk_ BK1242) hg (Kd.R_ne HO1246.out BK1242.out (by decide)))
  replace BK1243 := Aside0.mk (blk_grown (kk_ BK1243) hg (Kd.R_ne HO1246.out BK1243.out (by decide)))
  replace HB := Aside0.mk hb
  have HO1249 := Aside0.mk ho
  clear HO1246
  clear ho hb hg hat
  refine hK.out _ _ ⟨cz0_ BK1242, cz1_ BK1242⟩ (fun hHeld => ?_)
  clear hK K
  refine no_ (some 6) ?_
  refine on_ 8 (some 11) (bl_ 11 511) HT_ (fun K hK => ?_)
  refine gO_ Try.func102 #[.slice A0_0 l0_0.length c0_0, .slice A0_1 l0_1.length c0_1] (by rfl) rfl rfl qa_ ?_
  with_reducible refine (spec_l02Then.calls k _ _ l0_0 _ _ l0_1 t1250 _ (cb_ HR0_0) HC0_0.out (cb_ HR0_1) HC0_1.out A3.out).mono ?_
  rintro e w10 ⟨v1251, rfl, ho0, hb⟩
  refine ⟨_, rfl, ?_⟩
  have HO1252 := Aside0.mk (Kd.R_lower (Kd.R_new' ho0 (Kd.R_lt (rr_ HO1249))) (below_size hB_))
  replace HO1249 := Aside0.mk (Kd.R_elder' (rr_ HO1249) (Kd.R_base ho0) hb)
  replace BK1242 := bb_ BK1242 hb
  replace BK1243 := bb_ BK1243 hb
  replace HB := b1_ hb
  clear hb ho0
  obtain ⟨Ao11, co11, eo11⟩ := Kd.R_slice HO1252.out
  (first | subst eo11 | (injection eo11 with f1_ f2_ f3_; have f4_ := f1_.symm; have f5_ := f3_.symm; clear f1_ f2_ f3_; subst f4_; subst f5_))
  obtain ⟨Ao12, co12, eo12⟩ := Kd.R_slice HO1249.out
  (first | subst eo12 | (injection eo12 with f1_ f2_ f3_; have f4_ := f1_.symm; have f5_ := f3_.symm; clear f1_ f2_ f3_; subst f4_; subst f5_))
  refine hK.out _ _ ⟨cz0_ BK1242, cz1_ BK1242⟩ (fun hHeld => ?_)
  clear hK K
  refine no_ (some 11) ?_
  refine pu_ 9 (some 12) (bl_ 11 1023) HT_ ?_
  refine on_ 10 (none) (bl_ 11 2047) HT_ (fun K hK => ?_)
  have hs13 : w10.cell? ⟨gb1243, 0, none⟩ = some (.slice none 0 0) := cz0_ BK1243
  have hfs13 := blk_frozen BK1243.out 0
  have hns13_0 := NB1242_1243.out
  have hms13_0 := NB1243_1242.out
  have hs14 : w10.cell? ⟨gb1243, 1, none⟩ = some (.slice none 0 0) := cz1_ BK1243
  have hfs14 := blk_frozen BK1243.out 1
  have hns14_0 := NB1242_1243.out
  have hms14_0 := NB1243_1242.out
  refine skip_ (w1 := ?_) (by rfl) rfl ?_ ?_
  rotate_left
  · go_simp
    rfl
  refine hK.out _ _ ⟨((cell_far (p := ⟨gb1243, _, none⟩) NB1242_1243.out _).trans (((cell_far (p := ⟨gb1243, _, none⟩) NB1242_1243.out _).trans (hHeld.1)))), ((cell_far (p := ⟨gb1243, _, none⟩) NB1242_1243.out _).trans (((cell_far (p := ⟨gb1243, _, none⟩) NB1242_1243.out _).trans (hHeld.2))))⟩ (fun hHeld => ?_)
  clear hK K
  refine done_ (done_of HT_.out (by kernel_rfl)) ?_
  try go_wp2
  refine bodyPost_ret (results_cell_row rfl _ _ gb1243 27 #[.slice Ao12 y1247.length co12, .slice Ao11 t1250.length co11] (0, 0) _ rfl qp_ Try.underlying27 rfl (by kernel_rfl)) rfl ?_
  exact ⟨_, _, qb_, (rw_ (Kd.R_mono (fa_ HO1249 BK1243) (fun _ hk => hk.2))), (rw_ (Kd.R_mono (fa_ HO1252 BK1243) (fun _ hk => hk.2))), hB_⟩
end Go.Proofs.Ytbdnellgioimbaa.A
end
section
namespace Go.Proofs.Ytbdnellgioimbaa.A
open Go.RowKit Go.Proofs.YtbdnellgioimbaaW.PrintWords Go.Proofs.YtbdnellgioimbaaW.PrintLast Go.Proofs.YtbdnellgioimbaaW.PrintMore
attribute [local go_sem] max2_int min2_int max_two min_two max_three min_three max_four min_four
set_option linter.unusedVariables false
set_option linter.unusedSimpArgs false
def spec_l05Turn.f (k : Nat) (l0_0 : List Int) (l0_1 : List Int) : Option (List Int × List Int) := (spec_l02Inverse.f k l0_1).bind fun t1255 => ((some (([] : List Int) : List Int)).bind fun y1258 => (if y1258.length + l0_0.length < 17592186044416 then (some (t1255, (y1258 ++ l0_0))) else (none)))
theorem spec_l05Turn.mono : ∀ a0 a1 k, LeO (spec_l05Turn.f k a0 a1) (spec_l05Turn.f (k + 1) a0 a1) := by
  intro a0 a1 k
  unfold spec_l05Turn.f
  repeat' first|exact spec_l02Inverse.mono _ _|exact lo_|refine LeO.ite ?_ ?_|refine LeO.bind ?_ (fun _ => ?_)
def spec_l05Turn.T1 : Bool × List (List Nat × List Nat) := (true, [([], []), ([0], [0]), ([1], [1]), ([], []), ([], []), ([4], [4]), ([3, 5, 2], [3, 5]), ([2, 6], [2, 6]), ([7, 6, 0, 1, 2, 3, 4, 5, 6, 7], [7])])
def spec_l05Turn.B1 : List Nat := [0, 1, 3, 0, 0, 16, 63, 127, 255]
theorem spec_l05Turn.tab1 : rtab .any (opsOf Try.f152 1) = spec_l05Turn.T1 := by kernel_rfl
theorem spec_l05Turn.bits1 : waitsOk spec_l05Turn.T1.2 spec_l05Turn.B1 = true := by kernel_rfl
set_option maxHeartbeats 8000000 in
set_option maxRecDepth 100000 in
theorem spec_l05Turn.calls (k : Nat) (A0_0 : Option Addr) (c0_0 : Nat) (l0_0 : List Int) (A0_1 : Option Addr) (c0_1 : Nat) (l0_1 : List Int) (r1 : List Int) (r2 : List Int) (w : World) (hr0_0 : Kd.C (Kd.int .i64) w A0_0 l0_0.length l0_0) (hc0_0 : l0_0.length ≤ c0_0) (hr0_1 : Kd.C (Kd.int .i64) w A0_1 l0_1.length l0_1) (hc0_1 : l0_1.length ≤ c0_1) (h : spec_l05Turn.f k l0_0 l0_1 = some (r1, r2)) :
    Calls Try.prog 152 #[.agg #[.slice A0_0 l0_0.length c0_0, .slice A0_1 l0_1.length c0_1]] w fun e w' => ∃ v0_ v1_ : Value, e = .returned (.agg #[v0_, v1_]) ∧ Kd.R (Kd.int .i64) 3 w' w.heap.size (fun k_ => some k_ ≠ (v1_ : Value).ownBlock) v0_ r1 ∧ Kd.R (Kd.int .i64) 3 w' w.heap.size (fun k_ => some k_ ≠ (v0_ : Value).ownBlock) v1_ r2 ∧ Below w.heap.size w w' := by
  have hu27 := Try.underlying27
  have HR0_0 := Aside0.mk hr0_0
  have HC0_0 := Aside0.mk hc0_0
  clear hr0_0 hc0_0
  have HR0_1 := Aside0.mk hr0_1
  have HC0_1 := Aside0.mk hc0_1
  clear hr0_1 hc0_1
  have HB := Aside0.mk (Below.refl w.heap.size w)
  have H := h
  unfold spec_l05Turn.f at H
  clear h
  obtain ⟨t1255, A2, H⟩ := bi_ H
  obtain ⟨y1258, hy1258⟩ : ∃ y_ : List Int, y_ = (([] : List Int)) := ⟨_, rfl⟩
  replace H : (if y1258.length + l0_0.length < 17592186044416 then (some (t1255, (y1258 ++ l0_0))) else (none)) = some (r1, r2) := by first | (rw [hy1258]; exact H) | exact H
  have Ny1258 := Aside0.mk hy1258
  clear hy1258
  have c3 := cp_ H
  replace H := ca_ H
  have LMc3 := Aside0.mk c3
  clear c3
  obtain ⟨y1261, hy1261⟩ : ∃ y_ : List Int, y_ = (y1258 ++ l0_0) := ⟨_, rfl⟩
  replace H : (some (t1255, y1261)) = some (r1, r2) := by first | (rw [hy1261]; exact H) | exact H
  have Ny1261 := Aside0.mk hy1261
  clear hy1261
  simp only [Option.some.injEq, Prod.mk.injEq] at H
  obtain ⟨rfl, rfl⟩ := H
  go_enter Try.func152, Try.ntmps152
  try go_wp2_with (first | ((with_reducible refine gate_dst (N := 1) rfl ?_); refine bx_ 1 #[.slice A0_0 l0_0.length c0_0, .slice A0_1 l0_1.length c0_1] 27 ?_; intro gb1253 hg w4 hbox hb; have BK1253 := Aside0.mk hbox; have GW1253 := gw_ w hg; have GE1253 := GW1253; replace HB := b1_ hb; clear hb hbox hg) | ((with_reducible refine gate_dst (N := 2) rfl ?_); refine bx_ 2 #[.slice none 0 0, .slice none 0 0] 27 ?_; intro gb1254 hg w5 hbox hb; have BK1254 := Aside0.mk hbox; have GW1254 := gw_ w hg; have GE1254 := GW1254; replace HB := b1_ hb; have NB1253_1254 := gN_ BK1253 hg; have NB1254_1253 := gP_ BK1253 hg; replace BK1253 := bb_ BK1253 hb; clear hb hbox hg))
  replace BK1253 := Aside0.mk (blk_drew BK1253.out)
  replace BK1254 := Aside0.mk (blk_drew BK1254.out)
  replace HB := Aside0.mk (below_drew1 HB.out)
  refine start_ (n := 9) (S := fun w' => w'.cell? ⟨gb1253, 0, none⟩ = some (.slice A0_0 l0_0.length c0_0) ∧ w'.cell? ⟨gb1253, 1, none⟩ = some (.slice A0_1 l0_1.length c0_1)) (ds := []) (bl_ 9 0) (by kernel_rfl) rfl (by kernel_rfl) ⟨cz0_ BK1253, cz1_ BK1253⟩ (fun hHeld => ?_); refine with_tabW spec_l05Turn.tab1 spec_l05Turn.bits1 (fun HT_ HW_ => ?_)
  generalize w5.drew = w6 at BK1253 BK1254 HB hHeld ⊢
  refine pu_ 0 (some 3) (bl_ 9 1) HT_ ?_
  refine pu_ 4 (some 7) (bl_ 9 17) HT_ ?_
  refine ta_ 1 (some 4) (bl_ 9 19) HT_ HW_ hHeld ?_
  refine ta_ 5 (some 8) (bl_ 9 51) HT_ HW_ hHeld ?_
  refine join_ (σ := Value × Value) 3 (bl_ 9 63) (fun s_ => [(5, s_.1), (6, s_.2)]) (fun s_ w' => (w'.cell? ⟨gb1253, 0, none⟩ = some (.slice A0_0 l0_0.length c0_0) ∧ w'.cell? ⟨gb1253, 1, none⟩ = some (.slice A0_1 l0_1.length c0_1)) ∧ (Kd.R (Kd.int .i64) 3 w' w.heap.size (fun k_ => some k_ ≠ (s_.2 : Value).ownBlock) s_.1 t1255) ∧ (Kd.R (Kd.int .i64) 3 w' w.heap.size (fun k_ => some k_ ≠ (s_.1 : Value).ownBlock) s_.2 y1258) ∧ (w'.heap[gb1253]? = some (.cells #[.slice A0_0 l0_0.length c0_0, .slice A0_1 l0_1.length c0_1] 27 (0, 0))) ∧ (w'.heap[gb1254]? = some (.cells #[.slice none 0 0, .slice none 0 0] 27 (0, 0))) ∧ (Below w.heap.size w w')) ?_ ?_
  rotate_left
  · intro hCont
    refine two_ (i := 2) (j := 3) (Ni := some 5) (Nj := some 6) (bl_ 9 55) (bl_ 9 59) rfl rfl rfl rfl (two_of HT_.out (by kernel_rfl)) (by decide) (by decide) (fun K hK => ?_) (fun K hK => ?_)
    · skip
      refine gO_ Try.func116 #[.slice A0_1 l0_1.length c0_1] (by rfl) rfl rfl qa_ ?_
      with_reducible refine (spec_l02Inverse.calls k _ _ l0_1 t1255 _ (cb_ HR0_1) HC0_1.out A2.out).mono ?_
      rintro e w7 ⟨v1256, rfl, ho0, hb⟩
      refine ⟨_, rfl, ?_⟩
      have HO1257 := rl_ w ho0
      replace BK1253 := bb_ BK1253 hb
      replace BK1254 := bb_ BK1254 hb
      replace HB := b1_ hb
      clear hb ho0
      refine hK.out _ _ ⟨cz0_ BK1253, cz1_ BK1253⟩ (fun hHeld => ?_)
      clear hK K
      refine no_ (some 5) ?_
      refine on_ 3 (some 6) (bl_ 9 63) HT_ (fun K hK => ?_)
      refine Kd.R_lit_step (Kd.int .i64) _ 3 ?hg (N := 6) ?hd (xs := ([] : List Int)) (inner := []) (ok := fun _ => True) (okp := fun _ => True) ?hr ?hp (fun _ hk => hk) trivial (Below.refl _ _) (Nat.le_refl _) (by simp) ?_; (case hd => rfl); (case hg => rfl); (case hr => first | (go_simp; done) | (go_simp; rfl)); (case hp => exact (Reps.none _ _))
      intro v1259 w8 ho9 hb hg_ hnew_
      clear hg_ hnew_
      (first | rw [← Ny1258.out] at ho9 | (simp only [Int.reduceToNat] at ho9; rw [← Ny1258.out] at ho9))
      have HO1260 := Aside0.mk (Kd.R_lower (Kd.R_new' ho9 (Kd.R_lt (rr_ HO1257))) (below_size hB_))
      replace HO1257 := Aside0.mk (Kd.R_elder' (rr_ HO1257) (Kd.R_base ho9) hb)
      replace BK1253 := bb_ BK1253 hb
      replace BK1254 := bb_ BK1254 hb
      replace HB := b1_ hb
      clear hb ho9
      refine hK.out _ _ ⟨cz0_ BK1253, cz1_ BK1253⟩ (fun hHeld => ?_)
      clear hK K
      refine no_ (some 6) ?_
      exact norm_ (by simp only [putAll, Act.put, List.setIfInBounds_toArray, List.set_cons_zero, List.set_cons_succ]) (hCont (v1256, v1259) _ ⟨hHeld, (rw_ (Kd.R_mono HO1257.out (fun _ hk => hk.2))), (rw_ (Kd.R_mono HO1260.out (fun _ hk => hk.2))), (kk_ BK1253), (kk_ BK1254), hB_⟩)
    · skip
      refine Kd.R_lit_step (Kd.int .i64) _ 3 ?hg (N := 6) ?hd (xs := ([] : List Int)) (inner := []) (ok := fun _ => True) (okp := fun _ => True) ?hr ?hp (fun _ hk => hk) trivial (Below.refl _ _) (Nat.le_refl _) (by simp) ?_; (case hd => rfl); (case hg => rfl); (case hr => first | (go_simp; done) | (go_simp; rfl)); (case hp => exact (Reps.none _ _))
      intro v1259 w7 ho8 hb hg_ hnew_
      clear hg_ hnew_
      (first | rw [← Ny1258.out] at ho8 | (simp only [Int.reduceToNat] at ho8; rw [← Ny1258.out] at ho8))
      have HO1260 := rl_ w ho8
      replace BK1253 := bb_ BK1253 hb
      replace BK1254 := bb_ BK1254 hb
      replace HB := b1_ hb
      clear hb ho8
      refine hK.out _ _ ⟨cz0_ BK1253, cz1_ BK1253⟩ (fun hHeld => ?_)
      clear hK K
      refine no_ (some 6) ?_
      refine on_ 2 (some 5) (bl_ 9 63) HT_ (fun K hK => ?_)
      refine gO_ Try.func116 #[.slice A0_1 l0_1.length c0_1] (by rfl) rfl rfl qa_ ?_
      with_reducible refine (spec_l02Inverse.calls k _ _ l0_1 t1255 _ (cb_ HR0_1) HC0_1.out A2.out).mono ?_
      rintro e w9 ⟨v1256, rfl, ho0, hb⟩
      refine ⟨_, rfl, ?_⟩
      have HO1257 := Aside0.mk (Kd.R_lower (Kd.R_new' ho0 (Kd.R_lt (rr_ HO1260))) (below_size hB_))
      replace HO1260 := Aside0.mk (Kd.R_elder' (rr_ HO1260) (Kd.R_base ho0) hb)
      replace BK1253 := bb_ BK1253 hb
      replace BK1254 := bb_ BK1254 hb
      replace HB := b1_ hb
      clear hb ho0
      refine hK.out _ _ ⟨cz0_ BK1253, cz1_ BK1253⟩ (fun hHeld => ?_)
      clear hK K
      refine no_ (some 5) ?_
      exact norm_ (by simp only [putAll, Act.put, List.setIfInBounds_toArray, List.set_cons_zero, List.set_cons_succ]) (hCont (v1256, v1259) _ ⟨hHeld, (rw_ (Kd.R_mono HO1257.out (fun _ hk => hk.2))), (rw_ (Kd.R_mono HO1260.out (fun _ hk => hk.2))), (kk_ BK1253), (kk_ BK1254), hB_⟩)
  rintro ⟨v1256, v1259⟩ w10 ⟨hS_, h0_, h1_, h2_, h3_, h4_⟩
  have n0_ : Aside0 (Kd.R (Kd.int .i64) 3 w10 w.heap.size (fun k_ => some k_ ≠ (v1259 : Value).ownBlock) v1256 t1255) := ⟨h0_⟩
  have n1_ : Aside0 (Kd.R (Kd.int .i64) 3 w10 w.heap.size (fun k_ => some k_ ≠ (v1256 : Value).ownBlock) v1259 y1258) := ⟨h1_⟩
  have n2_ : Aside0 (w10.heap[gb1253]? = some (.cells #[.slice A0_0 l0_0.length c0_0, .slice A0_1 l0_1.length c0_1] 27 (0, 0))) := ⟨h2_⟩
  have n3_ : Aside0 (w10.heap[gb1254]? = some (.cells #[.slice none 0 0, .slice none 0 0] 27 (0, 0))) := ⟨h3_⟩
  have n4_ : Aside0 (Below w.heap.size w w10) := ⟨h4_⟩
  clear BK1253
  clear BK1254
  clear HB
  clear h0_ h1_ h2_ h3_ h4_
  have HO1257 := n0_
  have HO1260 := n1_
  have BK1253 := n2_
  have BK1254 := n3_
  have HB := n4_
  clear n0_ n1_ n2_ n3_ n4_
  have hHeld : w10.cell? ⟨gb1253, 0, none⟩ = some (.slice A0_0 l0_0.length c0_0) ∧ w10.cell? ⟨gb1253, 1, none⟩ = some (.slice A0_1 l0_1.length c0_1) := hS_
  refine norm_ (a' := ?_) ?_ ?_
  rotate_left
  · simp only [putAll, Act.put, List.setIfInBounds_toArray, List.set_cons_zero, List.set_cons_succ]
    rfl
  refine on_ 6 (some 9) (bl_ 9 127) HT_ (fun K hK => ?_)
  refine Kd.R_append_rows_step (Kd.int .i64) (w0 := w) w.heap.size (by rfl) (.tmp 6) (.tmp 8) 22 3 (.int .i64 0) 8 rfl Try.underlying22 info3 rfl (by decide) (by omega) v1259 y1258 l0_0 _ _ _ (fun k_ => some k_ ≠ (v1256 : Value).ownBlock) (fun _ => False) rfl rfl ?aO ?aR (fun _ _ h => h) (fun _ h => h.elim) ?aF ?aB ?aS ?aL ?_
  (case aR => exact cb_ HR0_0)
  (case aB => exact hB_)
  (case aF => exact (fun k_ hk => Kd.fresh' (Kd.R_lt (rr_ HO1257)) k_ hk))
  (case aO => exact (rr_ HO1260))
  (case aS => exact (below_size hB_))
  (case aL => have := LMc3.out; omega)
  intro v1262 w11 ho hb hg hat
  rw [← Ny1261.out] at ho
  replace BK1253 := Aside0.mk (blk_grown (kk_ BK1253) hg (Kd.R_ne HO1260.out BK1253.out (by decide)))
  replace BK1254 := Aside0.mk (blk_grown (kk_ BK1254) hg (Kd.R_ne HO1260.out BK1254.out (by decide)))
  replace HO1257 := Aside0.mk (Kd.R_after (ok := (fun _ => True)) (rw_ (Kd.R_mono HO1257.out (fun _ hk => ⟨trivial, hk⟩))) hg hat)
  replace HB := Aside0.mk hb
  have HO1263 := Aside0.mk ho
  clear HO1260
  clear ho hb hg hat
  obtain ⟨Ao12, co12, eo12⟩ := Kd.R_slice HO1263.out
  (first | subst eo12 | (injection eo12 with f1_ f2_ f3_; have f4_ := f1_.symm; have f5_ := f3_.symm; clear f1_ f2_ f3_; subst f4_; subst f5_))
  obtain ⟨Ao13, co13, eo13⟩ := Kd.R_slice HO1257.out
  (first | subst eo13 | (injection eo13 with f1_ f2_ f3_; have f4_ := f1_.symm; have f5_ := f3_.symm; clear f1_ f2_ f3_; subst f4_; subst f5_))
  refine hK.out _ _ ⟨cz0_ BK1253, cz1_ BK1253⟩ (fun hHeld => ?_)
  clear hK K
  refine no_ (some 9) ?_
  refine pu_ 7 (some 10) (bl_ 9 255) HT_ ?_
  refine on_ 8 (none) (bl_ 9 511) HT_ (fun K hK => ?_)
  have hs14 : w11.cell? ⟨gb1254, 0, none⟩ = some (.slice none 0 0) := cz0_ BK1254
  have hfs14 := blk_frozen BK1254.out 0
  have hns14_0 := NB1253_1254.out
  have hms14_0 := NB1254_1253.out
  have hs15 : w11.cell? ⟨gb1254, 1, none⟩ = some (.slice none 0 0) := cz1_ BK1254
  have hfs15 := blk_frozen BK1254.out 1
  have hns15_0 := NB1253_1254.out
  have hms15_0 := NB1254_1253.out
  refine skip_ (w1 := ?_) (by rfl) rfl ?_ ?_
  rotate_left
  · go_simp
    rfl
  refine hK.out _ _ ⟨((cell_far (p := ⟨gb1254, _, none⟩) NB1253_1254.out _).trans (((cell_far (p := ⟨gb1254, _, none⟩) NB1253_1254.out _).trans (hHeld.1)))), ((cell_far (p := ⟨gb1254, _, none⟩) NB1253_1254.out _).trans (((cell_far (p := ⟨gb1254, _, none⟩) NB1253_1254.out _).trans (hHeld.2))))⟩ (fun hHeld => ?_)
  clear hK K
  refine done_ (done_of HT_.out (by kernel_rfl)) ?_
  try go_wp2
  refine bodyPost_ret (results_cell_row rfl _ _ gb1254 27 #[.slice Ao13 t1255.length co13, .slice Ao12 y1261.length co12] (0, 0) _ rfl qp_ Try.underlying27 rfl (by kernel_rfl)) rfl ?_
  exact ⟨_, _, qb_, (rw_ (Kd.R_mono (fa_ HO1257 BK1254) (fun _ hk => hk.2))), (rw_ (fa_ HO1263 BK1254)), hB_⟩
end Go.Proofs.Ytbdnellgioimbaa.A
end
