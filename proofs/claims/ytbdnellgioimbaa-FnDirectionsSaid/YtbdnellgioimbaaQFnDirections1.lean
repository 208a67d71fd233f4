/- Lemmas for the row FnDirections: the program's functions told as plain functions, and plain mathematics. No conditions. -/
import Derived.ArgAppend
import Derived.Below
import Derived.BigQuiet
import Derived.Deep.AppendLies
import Derived.Deep.CutBlock
import Derived.Deep.DeepCutAuto
import Derived.Deep.Draws
import Derived.Deep.LoopGhost
import Derived.Deep.OwnRows
import Derived.Deep.QuietTactic
import Derived.Deep.RegionHeld3
import Derived.KernelRfl
import Derived.Laws.BitsLemmas
import Derived.Laws.BytesArg
import Derived.Laws.IdiomCopy
import Derived.Laws.MakeOwn
import Derived.Laws.OwnMore
import Derived.Laws.Rows
import Derived.Laws.Slices
import Derived.Laws.Tables
import Derived.Lib.AppendStr
import Derived.Lib.ConvBytes
import Derived.Maps.AppendAt
import Derived.OrdersHeld
import Derived.OwnWalk
import Derived.RowKit
import Derived.RowKit3
import Derived.Tactics
import Derived.Test.YtbdnellgioimbaaProg
import Derived.WalkKit
import Derived.WideLaws
import Derived.Test.YtbdnellgioimbaaQFnDirections0
section
namespace Go.Proofs.Ytbdnellgioimbaa.A
open Go.RowKit Go.Proofs.YtbdnellgioimbaaW.PrintWords Go.Proofs.YtbdnellgioimbaaW.PrintLast Go.Proofs.YtbdnellgioimbaaW.PrintMore
attribute [local go_sem] max2_int min2_int max_two min_two max_three min_three max_four min_four
set_option linter.unusedVariables false
set_option linter.unusedSimpArgs false
def errW : Option Int → Value
  | none => .nilIface
  | some c => .iface 0 (.int .i64 c)
theorem errW_none : errW none = .nilIface := rfl
theorem errW_some (c : Int) : errW (some c) = .iface 0 (.int .i64 c) := rfl
theorem info3 : (Try.prog.info? 3).map (fun i => (i.zero, i.size, i.bytes)) = some (some (.int .i64 0), 1, 8) := by kernel_rfl
theorem info4 : (Try.prog.info? 4).map (fun i => (i.zero, i.size, i.bytes)) = some (some (.bool false), 1, 1) := by kernel_rfl
theorem info5 : (Try.prog.info? 5).map (fun i => (i.zero, i.size, i.bytes)) = some (some (.int .u8 0), 1, 1) := by kernel_rfl
theorem info22 : (Try.prog.info? 22).map (fun i => (i.zero, i.size, i.bytes)) = some (some (.slice none 0 0), 1, 24) := by kernel_rfl
theorem info44 : (Try.prog.info? 44).map (fun i => (i.zero, i.size, i.bytes)) = some (some (.agg #[(.int .i64 0), (.int .i64 0)]), 2, 16) := by kernel_rfl
def rd_L1 (xs : List (List Int)) (i : Int) : (List Int) := xs.getD i.toNat ([] : List Int)
theorem at_L1 {w : World} {A : Option Addr} {n : Nat} {xs : List (List Int)} (h : Kd.C (Kd.slice 3 (Kd.int .i64)) w A n xs) (i : Int) (h0 : 0 ≤ i) (h1 : i < n) : ∃ ad A0 c0, A = some ad ∧ w.cell? (ad.add i.toNat) = some (.slice A0 (rd_L1 xs i).length c0) ∧ (rd_L1 xs i).length ≤ c0 ∧ (Kd.int .i64).C w A0 (rd_L1 xs i).length (rd_L1 xs i) := by
  obtain ⟨ad, c, e, _, hK, hc0⟩ := Kd.C_get h ([] : List Int) i h0 h1
  have hc : ∀ j u, c[j]? = some u → w.cell? (ad.add (i.toNat * 1 + j)) = some u := hc0
  obtain ⟨A0, c0, rfl, l0, g0⟩ := hK
  exact ⟨ad, A0, c0, e, by have hq := hc 0 _ rfl; rwa [Nat.mul_one, Nat.add_zero] at hq, l0, g0⟩
structure S128 where
  f0 : Int
  f1 : Int
structure S44 where
  f0 : Int
  f1 : Int
def z44 : S44 := ⟨(0 : Int), (0 : Int)⟩
def k44 : Kd S44 := Kd.iso (Kd.pair (Kd.int .i64) (Kd.int .i64)) (fun x : S44 => (x.f0, x.f1))
theorem k44_open {w : World} {x : S44} {cs : List Value} (h : k44.K w x cs) : cs = [.int .i64 x.f0, .int .i64 x.f1] := by
  obtain ⟨_, _, rfl, rfl, rfl⟩ := h
  exact rfl
theorem k44_mkM (w : World) (base : Nat) (ok : Nat → Prop) (x : S44)  : k44.M w base ok x [.int .i64 x.f0, .int .i64 x.f1] := ⟨[.int .i64 x.f0], [.int .i64 x.f1], rfl, rfl, rfl⟩
def rd_T44 (xs : List S44) (i : Int) : S44 := xs.getD i.toNat z44
theorem at_T44 {w : World} {A : Option Addr} {n : Nat} {xs : List S44} (h : Kd.C k44 w A n xs) (i : Int) (h0 : 0 ≤ i) (h1 : i < n) : ∃ ad , A = some ad ∧ w.cell? (ad.add (i.toNat * 2)) = some (.int .i64 (rd_T44 xs i).f0) ∧ w.cell? ⟨(ad.add (i.toNat * 2)).block, (ad.add (i.toNat * 2)).off + 1, none⟩ = some (.int .i64 (rd_T44 xs i).f1) := by
  obtain ⟨ad, c, e, _, hK, hc0⟩ := Kd.C_get h z44 i h0 h1
  have hc : ∀ j u, c[j]? = some u → w.cell? (ad.add (i.toNat * 2 + j)) = some u := hc0
  obtain rfl := k44_open hK
  exact ⟨ad, e, hc 0 _ rfl, by rw [← add_field _ _ 1 (by omega)]; exact hc 1 _ rfl⟩
structure S105 where
  f0 : (List Int)
  f1 : Int
  f2 : Int
end Go.Proofs.Ytbdnellgioimbaa.A
end
section
/- Short words for printed texts. No conditions. -/
namespace Go.Proofs.Ytbdnellgioimbaa.A
open Go.RowKit Go.Proofs.YtbdnellgioimbaaW.PrintWords Go.Proofs.YtbdnellgioimbaaW.PrintLast Go.Proofs.YtbdnellgioimbaaW.PrintMore
set_option linter.unusedVariables false
theorem qa_ {p : Prop} (h : p := by (try simp only [List.map_toArray, List.map_cons, List.map_nil]); first | done | rfl | (simp only [List.length_drop, List.length_take]; rfl)) : p := h
theorem qb_ {p : Prop} (h : p := by first | rfl | (simp [errW_none, errW_some] <;> rfl) | (simp [*, errW_none, errW_some] <;> rfl)) : p := h
theorem qc_ {p : Prop} (h : p := by first | rfl | (simp; done) | (simp [*]; done)) : p := h
theorem qd_ {p : Prop} (h : p := by first | omega | exact Nat.le_refl _) : p := h
theorem qe_ {p : Prop} (h : p := by first | (with_reducible assumption) | assumption) : p := h
theorem hB_ {p : Prop} (h : p := by repeat (first | (with_reducible first | exact HB.out | apply below_alloc | apply pw_below_drewN | apply below_drew1 | refine below_set ?_ (Aside0.out (by assumption))) | exact HB.out)) : p := h
theorem hBI_ {p : Prop} (h : p := by repeat (first | (with_reducible first | exact HB.out | apply below_alloc | apply pw_below_drewN | apply below_drew1 | refine below_set ?_ (IsS105.ge HI0.out) | refine below_set ?_ (IsS105.ge HI877.out) | refine below_set ?_ (Aside0.out (by assumption))) | exact HB.out)) : p := h
theorem hK_ {p : Prop} (h : p := by repeat (first | (with_reducible first | exact HK.out | apply KeepBut.set_ | apply keep_drewN | apply keep_drew | apply keep_alloc | refine keep_far ?_ (show w.heap.size ≤ _ from Aside0.out (by assumption)) _) | exact HK.out)) : p := h
theorem hI_IsS105_HI0 {p : Prop} (h : p := by repeat (first | (with_reducible first | exact HI0.out | apply IsS105.alloc | apply IsS105.drewN | apply IsS105.drew | apply IsS105.set_1 | apply IsS105.set_2 | refine IsS105.far ?_ (Aside0.out (by assumption)) _) | exact HI0.out)) : p := h
theorem hI_IsS105_HI877 {p : Prop} (h : p := by repeat (first | (with_reducible first | exact HI877.out | apply IsS105.alloc | apply IsS105.drewN | apply IsS105.drew | apply IsS105.set_1 | apply IsS105.set_2 | refine IsS105.far ?_ (Aside0.out (by assumption)) _) | exact HI877.out)) : p := h
theorem kk_ {w W : World} {g : Nat} {o : Obj} (a : Aside0 (w.heap[g]? = some o)) (hw : Below w.heap.size w W := by repeat (first | (with_reducible first | exact Below.refl _ _ | apply below_alloc | apply pw_below_drewN | apply below_drew1) | exact Below.refl _ _)) : W.heap[g]? = some o := blk_below a.out hw
theorem bb_ {w W w1 : World} {g : Nat} {o : Obj} (a : Aside0 (w.heap[g]? = some o)) (hb : Below W.heap.size W w1) (hw : Below w.heap.size w W := by repeat (first | (with_reducible first | exact Below.refl _ _ | apply below_alloc | apply pw_below_drewN | apply below_drew1) | exact Below.refl _ _)) : Aside0 (w1.heap[g]? = some o) := ⟨blk_below (blk_below a.out hw) hb⟩
section
variable {α : Type} {d : Kd α} {e n c : Nat} {b : Nat} {ok : Nat → Prop} {v : Value} {xs : List α} {A : Option Addr} {w W w1 : World}
theorem rr_ (a : Aside0 (d.R e w b ok v xs)) (hw : Below w.heap.size w W := by repeat (first | (with_reducible first | exact Below.refl _ _ | apply below_alloc | apply pw_below_drewN | apply below_drew1) | exact Below.refl _ _)) : d.R e W b ok v xs := Kd.R_below a.out hw
theorem rw_ (a : d.R e w b ok v xs) (hw : Below w.heap.size w W := by repeat (first | (with_reducible first | exact Below.refl _ _ | apply below_alloc | apply pw_below_drewN | apply below_drew1) | exact Below.refl _ _)) : d.R e W b ok v xs := Kd.R_below a hw
theorem rb_ (a : Aside0 (d.R e w b ok v xs)) (hb : Below W.heap.size W w1) (hw : Below w.heap.size w W := by repeat (first | (with_reducible first | exact Below.refl _ _ | apply below_alloc | apply pw_below_drewN | apply below_drew1) | exact Below.refl _ _)) : Aside0 (d.R e w1 b ok v xs) := ⟨Kd.R_below (Kd.R_below a.out hw) hb⟩
theorem ss_ (a : Aside0 (Kd.S d e w b ok v xs)) (hw : Below w.heap.size w W := by repeat (first | (with_reducible first | exact Below.refl _ _ | apply below_alloc | apply pw_below_drewN | apply below_drew1) | exact Below.refl _ _)) : Kd.S d e W b ok v xs := Kd.S_below a.out hw
theorem sw_ (a : Kd.S d e w b ok v xs) (hw : Below w.heap.size w W := by repeat (first | (with_reducible first | exact Below.refl _ _ | apply below_alloc | apply pw_below_drewN | apply below_drew1) | exact Below.refl _ _)) : Kd.S d e W b ok v xs := Kd.S_below a hw
theorem sb_ (a : Aside0 (Kd.S d e w b ok v xs)) (hb : Below W.heap.size W w1) (hw : Below w.heap.size w W := by repeat (first | (with_reducible first | exact Below.refl _ _ | apply below_alloc | apply pw_below_drewN | apply below_drew1) | exact Below.refl _ _)) : Aside0 (Kd.S d e w1 b ok v xs) := ⟨Kd.S_below (Kd.S_below a.out hw) hb⟩
theorem cb_ (a : Aside0 (d.C w A n xs)) (hw : Below w.heap.size w W := by repeat (first | (with_reducible first | exact HB.out | apply below_alloc | apply pw_below_drewN | apply below_drew1 | refine below_set ?_ (Aside0.out (by assumption))) | exact HB.out)) : d.C W A n xs := Kd.C_below a.out hw
theorem cc_ (a : Aside0 (d.C w A n xs)) (hw : Below w.heap.size w W := by repeat (first | (with_reducible first | exact Below.refl _ _ | apply below_alloc | apply pw_below_drewN | apply below_drew1) | exact Below.refl _ _)) : d.C W A n xs := Kd.C_below a.out hw
theorem cw_ (a : d.C w A n xs) (hw : Below w.heap.size w W := by repeat (first | (with_reducible first | exact Below.refl _ _ | apply below_alloc | apply pw_below_drewN | apply below_drew1) | exact Below.refl _ _)) : d.C W A n xs := Kd.C_below a hw
theorem cr_ (a : Aside0 (d.R e w b ok (.slice A n c) xs)) (hw : Below w.heap.size w W := by repeat (first | (with_reducible first | exact Below.refl _ _ | apply below_alloc | apply pw_below_drewN | apply below_drew1) | exact Below.refl _ _)) : d.C W A xs.length xs := Kd.C_below (Kd.R_reads' a.out).2.2 hw
end
theorem b1_ {w W w1 : World} (hb : Below W.heap.size W w1) (h : Below w.heap.size w W := by repeat (first | (with_reducible first | exact HB.out | apply below_alloc | apply pw_below_drewN | apply below_drew1 | refine below_set ?_ (Aside0.out (by assumption))) | exact HB.out)) : Aside0 (Below w.heap.size w w1) := ⟨below_step h hb⟩
theorem b2_ {w W w1 : World} (hb : Below W.heap.size W w1) (h : Below w.heap.size w W := by repeat (first | (with_reducible first | exact HB.out | apply below_alloc | apply pw_below_drewN | apply below_drew1 | refine below_set ?_ (IsS105.ge HI0.out) | refine below_set ?_ (IsS105.ge HI877.out) | refine below_set ?_ (Aside0.out (by assumption))) | exact HB.out)) : Aside0 (Below w.heap.size w w1) := ⟨below_step h hb⟩
theorem gx_ {n m k : Nat} (hg : k = m) (h : n ≤ m) : n ≤ k := hg ▸ h
theorem gn_ {n m k : Nat} (hg : k = m) (h : n < m) : n ≠ k := hg ▸ Nat.ne_of_lt h
theorem gp_ {n m k : Nat} (hg : k = m) (h : n < m) : k ≠ n := hg ▸ Nat.ne_of_gt h
theorem cz0_ {w : World} {g : Nat} {t : TypeId} {l : List Value} {v0 : Value} (h : Aside0 (w.heap[g]? = some (.cells (List.toArray (v0 :: l)) t (0, 0)))) : w.cell? ⟨g, 0, none⟩ = some v0 := (blk_cell h.out 0).trans rfl
theorem cz1_ {w : World} {g : Nat} {t : TypeId} {l : List Value} {v0 v1 : Value} (h : Aside0 (w.heap[g]? = some (.cells (List.toArray (v0 :: v1 :: l)) t (0, 0)))) : w.cell? ⟨g, 1, none⟩ = some v1 := (blk_cell h.out 1).trans rfl
theorem cz2_ {w : World} {g : Nat} {t : TypeId} {l : List Value} {v0 v1 v2 : Value} (h : Aside0 (w.heap[g]? = some (.cells (List.toArray (v0 :: v1 :: v2 :: l)) t (0, 0)))) : w.cell? ⟨g, 2, none⟩ = some v2 := (blk_cell h.out 2).trans rfl
theorem cz3_ {w : World} {g : Nat} {t : TypeId} {l : List Value} {v0 v1 v2 v3 : Value} (h : Aside0 (w.heap[g]? = some (.cells (List.toArray (v0 :: v1 :: v2 :: v3 :: l)) t (0, 0)))) : w.cell? ⟨g, 3, none⟩ = some v3 := (blk_cell h.out 3).trans rfl
theorem c2_ {w : World} {g : Nat} {t : TypeId} {v0 v1 : Value} (h : Aside0 (w.heap[g]? = some (.cells (List.toArray [v0, v1]) t (0, 0)))) : w.cell? ⟨g, 0, none⟩ = some v0 ∧ w.cell? ⟨g, 1, none⟩ = some v1 ∧ w.frozen? ⟨g, 0, none⟩ = false ∧ w.frozen? ⟨g, 1, none⟩ = false := ⟨cz0_ h, cz1_ h, blk_frozen h.out 0, blk_frozen h.out 1⟩
theorem gw_ (w : World) {W : World} {g : Nat} (hg : g = W.heap.size) (h : Below w.heap.size w W := by repeat (first | (with_reducible first | exact HB.out | apply below_alloc | apply pw_below_drewN | apply below_drew1 | refine below_set ?_ (Aside0.out (by assumption))) | exact HB.out)) : Aside0 (w.heap.size ≤ g) := ⟨gx_ hg (below_size h)⟩
theorem gN_ {w W : World} {g k : Nat} {o : Obj} (a : Aside0 (w.heap[g]? = some o)) (hg : k = W.heap.size) (hw : Below w.heap.size w W := by repeat (first | (with_reducible first | exact Below.refl _ _ | apply below_alloc | apply pw_below_drewN | apply below_drew1) | exact Below.refl _ _)) : Aside0 (g ≠ k) := ⟨gn_ hg (blk_lt (blk_below a.out hw))⟩
theorem gP_ {w W : World} {g k : Nat} {o : Obj} (a : Aside0 (w.heap[g]? = some o)) (hg : k = W.heap.size) (hw : Below w.heap.size w W := by repeat (first | (with_reducible first | exact Below.refl _ _ | apply below_alloc | apply pw_below_drewN | apply below_drew1) | exact Below.refl _ _)) : Aside0 (k ≠ g) := ⟨gp_ hg (blk_lt (blk_below a.out hw))⟩
theorem rl_ {α : Type} {d : Kd α} {e : Nat} {ok : Nat → Prop} {v : Value} {xs : List α} (w : World) {W w1 : World} (a : d.R e w1 W.heap.size ok v xs) (h : Below w.heap.size w W := by repeat (first | (with_reducible first | exact HB.out | apply below_alloc | apply pw_below_drewN | apply below_drew1 | refine below_set ?_ (Aside0.out (by assumption))) | exact HB.out)) : Aside0 (d.R e w1 w.heap.size ok v xs) := ⟨Kd.R_lower a (below_size h)⟩
theorem cp_ {α : Type} {c : Prop} [Decidable c] {a : Option α} {r : α} (H : (if c then a else none) = some r) : c := Classical.byContradiction fun h => by rw [if_neg h] at H; cases H
theorem ca_ {α : Type} {c : Prop} [Decidable c] {a : Option α} {r : α} (H : (if c then a else none) = some r) : a = some r := by rw [if_pos (cp_ H)] at H; exact H
theorem bi_ {α β : Type} {x : Option α} {f : α → Option β} {r : β} (H : x.bind f = some r) : ∃ a, Aside0 (x = some a) ∧ f a = some r := by obtain ⟨a, h, k⟩ := Option.bind_eq_some_iff.mp H; exact ⟨a, ⟨h⟩, k⟩
theorem qp_ {p : Prop} (h : p := by (with_reducible repeat (first | refine blk_drewN ?_ _ | refine blk_drew ?_ | refine blk_alloc ?_ _)); apply blk_put; (with_reducible repeat (first | refine blk_drewN ?_ _ | refine blk_drew ?_ | refine blk_alloc ?_ _)); apply blk_put; (with_reducible repeat (first | refine blk_drewN ?_ _ | refine blk_drew ?_ | refine blk_alloc ?_ _)); exact Aside0.out (by assumption); all_goals rfl) : p := h
theorem fa_ {α : Type} {d : Kd α} {e b g t : Nat} {ok : Nat → Prop} {v u0 u1 : Value} {xs : List α} {w : World} {cs : Array Value} (a : Aside0 (d.R e w b ok v xs)) (h : Aside0 (w.heap[g]? = some (.cells cs t (0, 0)))) (ht : ∀ q, q ∈ e :: d.E → q ≠ t := by decide) : d.R e ((w.setCell ⟨g, 0, none⟩ u0).setCell ⟨g, 1, none⟩ u1) b ok v xs := Kd.R_mono (Kd.R_far (p := ⟨g, 1, none⟩) (Kd.R_far (p := ⟨g, 0, none⟩) (Kd.R_types a.out h.out ht) (fun _ hk => hk.2) u0) (fun _ hk => hk.2) u1) (fun _ hk => hk.1)
def bl_ (n m : Nat) : Array Bool := ((List.range n).map fun i => m.testBit i).toArray
theorem lo_ {α : Type} {a b : Option α} (h : LeO a b := by first | exact LeO.refl _ | exact LeO.none _) : LeO a b := h
section
variable {P : Program} {ops : Array Oper} {rest : List Oper} {o : Oper} {a : Act} {Q : Exit → Act → World → Prop} {S : World → Prop} {ds : List Nat} {md : Region.Mode} {T : Bool × List (List Nat × List Nat)} {B : List Nat}
theorem bx_ {W : World} (N : Tmp) (cs : Array Value) (t : TypeId) (h : ∀ g, g = W.heap.size → ∀ w1, w1.heap[g]? = some (.cells cs t (0, 0)) → Below W.heap.size W w1 → wpList P ops Q rest (a.put o.dst (.pointer (some ⟨g, 0, none⟩))) w1) (hgd : o.guard = none := by rfl) (hd : o.dst = some N := by rfl) (hrun : (execOp a.eval o).run P W = .ok (.value (.pointer (some ⟨W.heap.size, 0, none⟩))) (W.alloc (.cells cs t (0, 0))) := by first | (go_simp; done) | (go_simp; rfl)) : wpList P ops Q (o :: rest) a W := box_event hgd hd hrun h
theorem gL_ {w : World} (N : Option Tmp) {f : FuncId} {fn : Func} {az : Array Operand} {ts : Array TypeId} (hf : P.funcs[f]? = some fn) (args : Array Value) (hop : o.op = .call { callee := .value (.func f), args := az, argTypes := ts }) (hargs : az.map a.eval = args) (h : Calls P f args w fun e w' => ∃ v, e = .returned v ∧ wpList P ops Q rest (a.put N v) w') (hd : o.dst = N := by rfl) (hg : o.guard = none := by rfl) (hname : (fn.name == "runtime.NumGoroutine") = false := by kernel_rfl) (hb : fn.body.isSome = true := by rfl) : wpList P ops Q (o :: rest) a w := goesL_ N hd hg hf hname hb args hop hargs h
theorem gO_ {N : Option Tmp} {w : World} {K : Act → World → Prop} {f : FuncId} {fn : Func} {az : Array Operand} {ts : Array TypeId} (hf : P.funcs[f]? = some fn) (args : Array Value) (hw : Region.wanted o (yielded ops a.tmps) = true) (hN : o.dst = N) (hop : o.op = .call { callee := .value (.func f), args := az, argTypes := ts }) (hargs : az.map a.eval = args) (h : Calls P f args w fun e w' => ∃ v, e = .returned v ∧ K (a.put N v) w') (hname : (fn.name == "runtime.NumGoroutine") = false := by kernel_rfl) (hb : fn.body.isSome = true := by rfl) : if Region.wanted o (yielded ops a.tmps) = true then Oper.wp P o a w K Q else K (a.put N undef) w := goes_ hf hname hb args hw hN hop hargs h
theorem pu_ (i : Nat) (N : Option Tmp) {v : Value} {fuel : Nat} {l : Array Bool} {w : World} (l' : Array Bool) (hT : Aside0 (rtab md ops = T)) {a' : Act} (h : wpAnyLast P md ops Q S ds fuel l' a' w) (hi : ops[i]? = some o := by rfl) (hN : o.dst = N := by rfl) (hc : anyT T l.toList l'.toList i = true := by kernel_rfl) (hQ : ∀ c a w, Q (.panic c) (a.put o.dst v) w → Q (.panic c) a w := by exact fun _ _ _ h => h) (hg : o.guard = none ∨ True := by exact .inr trivial) (hy : Yields P ops o v a := by exact Or.inl ⟨by rfl, by intro w'; go_simp; with_reducible rfl⟩) (ha : a.put N v = a' := by simp only [Act.put, List.setIfInBounds_toArray, List.set_cons_zero, List.set_cons_succ, i64_w, i32_w]; rfl) : wpAnyLast P md ops Q S ds (fuel + 1) l a w := pure_ l' hi hN (any_of hT.out hc) hQ hy ha h
theorem ta_ (i : Nat) (N : Option Tmp) {v : Value} {fuel : Nat} {l : Array Bool} {w : World} (l' : Array Bool) (hT : Aside0 (rtab md ops = T)) (hB : Aside0 (waitsOk T.2 B = true)) (hS : S w) {a' : Act} (h : wpAnyLast P md ops Q S ds fuel l' a' w) (hi : ops[i]? = some o := by rfl) (hN : o.dst = N := by rfl) (hc : takeW T B ds l.toList l'.toList i = true := by kernel_rfl) (hQ : ∀ c a w, Q (.panic c) (a.put o.dst v) w → Q (.panic c) a w := by exact fun _ _ _ h => h) (hy : YieldsIf P ops S o v a := by exact Or.inl ⟨by rfl, by intro w' hs_; (repeat obtain ⟨s_, hs_⟩ := hs_); go_simp; with_reducible rfl⟩) (ha : a.put N v = a' := by simp only [Act.put, List.setIfInBounds_toArray, List.set_cons_zero, List.set_cons_succ, i64_w, i32_w]; rfl) : wpAnyLast P md ops Q S ds (fuel + 1) l a w := take_ l' hi hN (take_ofW hT.out hB.out hc) hQ hy hS ha h
theorem on_ (i : Nat) (N : Option Tmp) {fuel : Nat} {l : Array Bool} {w : World} (l' : Array Bool) (hT : Aside0 (rtab md ops = T)) (h : ∀ K : Act → World → Prop, Shut (∀ a' w', S w' → (S w' → wpAnyLast P md ops Q S ds fuel l' a' w') → K a' w') → if Region.wanted o (yielded ops a.tmps) = true then Oper.wp P o a w K Q else K (a.put N undef) w) (hi : ops[i]? = some o := by rfl) (hN : o.dst = N := by rfl) (hc : (readyT T.2 l.toList == [i] && l.toList.set i true == l'.toList) = true := by kernel_rfl) (hd : i ∉ ds := by decide) : wpAnyLast P md ops Q S ds (fuel + 1) l a w := one_ l' hi hN (one_of hT.out hc) hd h
theorem no_ {v : Value} {fuel : Nat} {l : Array Bool} {w : World} (N : Option Tmp) {a' : Act} (h : wpAnyLast P md ops Q S ds fuel l a' w) (ha : a.put N v = a' := by simp only [Act.put, List.setIfInBounds_toArray, List.set_cons_zero, List.set_cons_succ, i64_w, i32_w]; rfl) : wpAnyLast P md ops Q S ds fuel l (a.put N v) w := norm_ ha h
end
end Go.Proofs.Ytbdnellgioimbaa.A
end
section
namespace Go.Proofs.Ytbdnellgioimbaa.A
open Go.RowKit Go.Proofs.YtbdnellgioimbaaW.PrintWords Go.Proofs.YtbdnellgioimbaaW.PrintLast Go.Proofs.YtbdnellgioimbaaW.PrintMore
attribute [local go_sem] max2_int min2_int max_two min_two max_three min_three max_four min_four
set_option linter.unusedVariables false
set_option linter.unusedSimpArgs false
def impl_PermOk.l0 : Nat → List Int → List Bool → Int → Option Bool
  | 0, _, _, _ => none
  | k + 1, l, s, i => if i < (l.length : Int) then (if 0 ≤ i then (if rd l i < 0 then some false else (if rd l i ≥ (l.length : Int) then some false else (if rdOf false s (rd l i) = true then some false else impl_PermOk.l0 k l (s.set (rd l i).toNat true) (wrap64 (i + 1))))) else none) else some true
def impl_PermOk.f (k : Nat) (l0 : List Int) : Option Bool := if (l0.length : Int) > 24 then some false else impl_PermOk.l0 k l0 (List.replicate 24 false) 0
theorem impl_PermOk.mono_l : ∀ k, (∀ y0 y1 y2, LeO (impl_PermOk.l0 k y0 y1 y2) (impl_PermOk.l0 (k + 1) y0 y1 y2))
  | 0 => fun _ _ _ r h => by simp [impl_PermOk.l0] at h
  | k + 1 => by
    have ih0 := impl_PermOk.mono_l k
    · intro y0 y1 y2
      unfold impl_PermOk.l0
      repeat' first|exact ih0 _ _ _|exact lo_|refine LeO.ite ?_ ?_|refine LeO.bind ?_ (fun _ => ?_)
theorem impl_PermOk.mono : ∀ a0 k, LeO (impl_PermOk.f k a0) (impl_PermOk.f (k + 1) a0) := by
  intro a0 k
  unfold impl_PermOk.f
  exact LeO.ite (LeO.refl _) (impl_PermOk.mono_l k _ _ _)
def Z24 : Array Value := #[Value.bool false, Value.bool false, Value.bool false, Value.bool false, Value.bool false, Value.bool false, Value.bool false, Value.bool false, Value.bool false, Value.bool false, Value.bool false, Value.bool false, Value.bool false, Value.bool false, Value.bool false, Value.bool false, Value.bool false, Value.bool false, Value.bool false, Value.bool false, Value.bool false, Value.bool false, Value.bool false, Value.bool false]
theorem row_same (w : World) (g : Nat) (t : TypeId) (cur : Array Value) (hg : w.heap[g]? = some (.cells cur t (0, 0))) : w.setRow g cur = w := by
  have hv : ∀ h, w.heap[g]'h = .cells cur t (0, 0) := fun h => (Array.getElem?_eq_some_iff.1 hg).2
  unfold World.setRow
  cases w with
  | mk heap tape drawn os output =>
    congr 1
    apply Array.ext
    · simp
    · intro k h1 h2
      simp only [Array.getElem_modify]
      split
      · rename_i hk; subst hk; simp at hv; simp [hv h2]
      · rfl
theorem wpList_val {P : Program} {ops : Array Oper} {rest : List Oper} {o : Oper} {a : Act} {Q : Exit → Act → World → Prop} {w : World} (hg : o.guard = none) (v : Value) (w1 : World) (hrun : (execOp a.eval o).run P w = .ok (.value v) w1) (h : wpList P ops Q rest (a.put o.dst v) w1) : wpList P ops Q (o :: rest) a w :=
  wpList_plain hg fun K hK => by unfold Oper.wp; rw [hrun]; exact hK _ _ h
theorem perm_start (w : World) : Kd.R Kd.bool 125 (w.alloc (.cells Z24 125)) w.heap.size (fun _ => True) (.slice (some ⟨w.heap.size, 0, none⟩) 24 24) (List.replicate 24 false) := by
  have h := World.ownsRow_lit (base := w.heap.size) (e := 125) (size := 1) w Z24 24 (Nat.le_refl _) (by unfold maxLen; omega) rfl
  exact Kd.R_of_own (xs := List.replicate 24 false) h (fun _ _ => trivial)
set_option maxHeartbeats 8000000 in
set_option maxRecDepth 100000 in
theorem impl_PermOk.calls (k : Nat) (A0 : Option Addr) (c0 : Nat) (l0 : List Int) (r : Bool) (w : World) (hr0 : Kd.C (Kd.int .i64) w A0 l0.length l0) (hc0 : l0.length ≤ c0) (h : impl_PermOk.f k l0 = some r) :
    Calls Try.prog 98 #[.slice A0 l0.length c0] w fun e w' => e = .returned (.bool r) ∧ Below w.heap.size w w' := by
  have HR0 := Aside0.mk hr0
  have HC0 := Aside0.mk hc0
  clear hr0 hc0
  have hst := perm_start w
  have HST := Aside0.mk hst
  clear hst
  have hb0 : Below w.heap.size w (w.alloc (.cells Z24 125)) := (Below.refl _ _).alloc (Nat.le_refl _) _
  have HB0 := Aside0.mk hb0
  clear hb0
  unfold impl_PermOk.f at h
  by_cases c2 : (l0.length : Int) > 24
  · rw [if_pos c2] at h
    have c2b0 : decide (24 < (l0.length : Int)) = true := decide_eq_true c2
    have c2b1 : decide (24 < l0.length) = true := decide_eq_true (by omega)
    clear c2
    obtain rfl := Option.some.inj h
    go_enter Try.func98, Try.ntmps98
    go_upto_region 1 with (fail)
    refine wp_region_lit ?_
    refine wpList_val rfl (.agg Z24) w (by as_aux_lemma => kernel_rfl) ?_
    refine wpList_val rfl (.pointer (some ⟨w.heap.size, 0, none⟩)) (w.alloc (.cells Z24 125)) (by as_aux_lemma => kernel_rfl) ?_
    refine wpList_store_row rfl 125 (.tmp 3) (.tmp 6) rfl w.heap.size Z24 rfl rfl 125 Z24 (heap_alloc_new _ _) (by as_aux_lemma => kernel_rfl) rfl (by as_aux_lemma => kernel_rfl) ?_
    rw [row_same _ _ _ _ (heap_alloc_new _ _)]
    generalize w.alloc (.cells Z24 125) = wq at HB0 ⊢
    generalize Value.agg Z24 = ag
    go_wp2
    go_ret
    exact ⟨rfl, HB0.out⟩
  · rw [if_neg c2] at h
    have hn : l0.length ≤ 24 := by omega
    have HN := Aside0.mk hn
    clear hn
    have c2b0 : decide (24 < (l0.length : Int)) = false := decide_eq_false c2
    have c2b1 : decide (24 < l0.length) = false := decide_eq_false (by omega)
    clear c2
    have H' := Aside0.mk h
    clear h
    go_enter Try.func98, Try.ntmps98
    go_upto_region 1 with (fail)
    refine wp_region_lit ?_
    refine wpList_val rfl (.agg Z24) w (by as_aux_lemma => kernel_rfl) ?_
    refine wpList_val rfl (.pointer (some ⟨w.heap.size, 0, none⟩)) (w.alloc (.cells Z24 125)) (by as_aux_lemma => kernel_rfl) ?_
    refine wpList_store_row rfl 125 (.tmp 3) (.tmp 6) rfl w.heap.size Z24 rfl rfl 125 Z24 (heap_alloc_new _ _) (by as_aux_lemma => kernel_rfl) rfl (by as_aux_lemma => kernel_rfl) ?_
    rw [row_same _ _ _ _ (heap_alloc_new _ _)]
    generalize w.alloc (.cells Z24 125) = wq at HB0 HST ⊢
    generalize Value.agg Z24 = ag
    go_wp2
    go_loopg [12] k (fun kq v12 w' => ∃ (s : List Bool) (i : Int), v12 = .int .i64 i ∧ Aside0 (impl_PermOk.l0 kq l0 s i = some r) ∧ Aside0 (kq ≤ k) ∧ Aside0 (s.length = 24) ∧ Aside0 (Kd.R Kd.bool 125 w' w.heap.size (fun _ => True) (.slice (some ⟨w.heap.size, 0, none⟩) 24 24) s) ∧ Aside0 (Below w.heap.size w w'))
    case atStart => exact ⟨List.replicate 24 false, 0, rfl, H', ⟨Nat.le_refl _⟩, ⟨rfl⟩, HST, HB0⟩
    case round =>
      clear H' HST HB0
      obtain ⟨s, i, rfl, HA, HK1, HS, HO, HB⟩ := hrel
      cases gk with
      | zero => exact absurd HA.out (by simp [impl_PermOk.l0])
      | succ k1 =>
        have H := HA.out
        clear HA
        simp only [impl_PermOk.l0] at H
        by_cases c3 : i < (l0.length : Int)
        · rw [if_pos c3] at H
          have c4 := cp_ H
          replace H := ca_ H
          have c3b0 := decide_eq_true c3
          have c4b0 := decide_eq_true c4
          obtain ⟨ad, e0, hx⟩ := Kd.at_int HR0.out i c4 c3
          cases e0
          replace hx := (HB.out.cell (World.block_lt_of_cell? w _ hx)).trans hx
          replace c3 := eq_true c3
          replace c4 := eq_true c4
          by_cases c5 : rd l0 i < 0
          · rw [if_pos c5] at H
            have c5b0 := decide_eq_true c5
            clear c5
            obtain rfl := Option.some.inj H
            go_wp2
            go_ret
            exact ⟨rfl, HB.out⟩
          · rw [if_neg c5] at H
            have c5b0 := decide_eq_false c5
            by_cases c6 : rd l0 i ≥ (l0.length : Int)
            · rw [if_pos c6] at H
              have c6b0 : decide ((l0.length : Int) ≤ rd l0 i) = true := decide_eq_true c6
              clear c5 c6
              obtain rfl := Option.some.inj H
              go_wp2
              go_ret
              exact ⟨rfl, HB.out⟩
            · rw [if_neg c6] at H
              have c6b0 : decide ((l0.length : Int) ≤ rd l0 i) = false := decide_eq_false c6
              have p1 : 0 ≤ rd l0 i := by omega
              have p2 : rd l0 i < ((24 : Nat) : Int) := by have := HN.out; omega
              have p2' : rd l0 i < 24 := p2
              obtain ⟨hy, hz⟩ := Kd.R_celln false HO.out (rd l0 i) p1 p2
              have p1b : decide (0 ≤ rd l0 i) = true := decide_eq_true p1
              have p2b : decide (rd l0 i < 24) = true := decide_eq_true p2'
              clear c5 c6
              by_cases c7 : rdOf false s (rd l0 i) = true
              · rw [if_pos c7] at H
                rw [c7] at hy
                clear c7
                obtain rfl := Option.some.inj H
                go_wp2
                go_ret
                exact ⟨rfl, HB.out⟩
              · rw [if_neg c7] at H
                replace c7 := Bool.eq_false_iff.mpr c7
                rw [c7] at hy
                clear c7
                have H' := Aside0.mk H
                clear H
                have HP := Kd.R_putg HO.out (rd l0 i) true
                have HP' := Aside0.mk HP
                clear HP
                go_wp2
                go_roundg k1
                case measure => have := HK1.out; omega
                case rel => exact ⟨s.set (rd l0 i).toNat true, wrap64 (i + 1), rfl, H', ⟨by have := HK1.out; omega⟩, ⟨by rw [List.length_set]; exact HS.out⟩, ⟨HP'.out.1⟩, ⟨below_set HB.out (Nat.le_refl _)⟩⟩
        · rw [if_neg c3] at H
          have c3b0 := decide_eq_false c3
          clear c3
          obtain rfl := Option.some.inj H
          go_wp2
          go_ret
          exact ⟨rfl, HB.out⟩
end Go.Proofs.Ytbdnellgioimbaa.A
end
section
namespace Go.Proofs.Ytbdnellgioimbaa.A
open Go.RowKit Go.Proofs.YtbdnellgioimbaaW.PrintWords Go.Proofs.YtbdnellgioimbaaW.PrintLast Go.Proofs.YtbdnellgioimbaaW.PrintMore
attribute [local go_sem] max2_int min2_int max_two min_two max_three min_three max_four min_four
set_option linter.unusedVariables false
set_option linter.unusedSimpArgs false
mutual
def impl_CyclesOf.l0 : Nat → List Int → List Bool → List (List Int) → Int → Int → Option ((List (List Int)))
  | 0, _, _, _, _, _ => none
  | k + 1, x0, x3, x4, x16, x17 => if x17 < x16 then (if 0 ≤ x17 then (if x17 < (x3.length : Int) then (if rdOf false x3 x17 = true then (impl_CyclesOf.l0 k x0 x3 x4 x16 (wrap64 (x17 + 1))) else (impl_CyclesOf.l1 k x0 x3 x4 (([] : List Int)) x17 x16 x17)) else (none)) else (none)) else (some x4)
def impl_CyclesOf.l1 : Nat → List Int → List Bool → List (List Int) → List Int → Int → Int → Int → Option ((List (List Int)))
  | 0, _, _, _, _, _, _, _ => none
  | k + 1, x0, x3, x4, x6, x7, x16, x17 => if 0 ≤ x7 then (if x7 < (x3.length : Int) then (if rdOf false x3 x7 = true then (if x4.length < 5864062014805 then (impl_CyclesOf.l0 k x0 x3 (x4 ++ [x6]) x16 (wrap64 (x17 + 1))) else (none)) else (if x6.length < 17592186044416 then (if x7 < (x0.length : Int) then (impl_CyclesOf.l1 k x0 (x3.set (x7 : Int).toNat true) x4 (x6 ++ [x7]) (rd x0 x7) x16 x17) else (none)) else (none))) else (none)) else (none)
end
def impl_CyclesOf.f (k : Nat) (l0 : List Int) : Option ((List (List Int))) := (impl_PermOk.f k l0).bind fun t420 => (if t420 = true then (if 0 ≤ (l0.length : Int) then (if ((l0.length : Int) : Int).toNat ≤ 281474976710656 then (impl_CyclesOf.l0 k l0 (List.replicate ((l0.length : Int) : Int).toNat false) (([] : List (List Int))) (l0.length : Int) 0) else (none)) else (none)) else (some ([] : List (List Int))))
theorem impl_CyclesOf.mono_l : ∀ k, (∀ y0 y1 y2 y3 y4, LeO (impl_CyclesOf.l0 k y0 y1 y2 y3 y4) (impl_CyclesOf.l0 (k + 1) y0 y1 y2 y3 y4)) ∧ (∀ y0 y1 y2 y3 y4 y5 y6, LeO (impl_CyclesOf.l1 k y0 y1 y2 y3 y4 y5 y6) (impl_CyclesOf.l1 (k + 1) y0 y1 y2 y3 y4 y5 y6))
  | 0 => ⟨fun _ _ _ _ _ r h => by simp [impl_CyclesOf.l0] at h, fun _ _ _ _ _ _ _ r h => by simp [impl_CyclesOf.l1] at h⟩
  | k + 1 => by
    obtain ⟨ih0, ih1⟩ := impl_CyclesOf.mono_l k
    refine ⟨?_, ?_⟩
    · intro y0 y1 y2 y3 y4
      unfold impl_CyclesOf.l0
      repeat' first|exact ih0 _ _ _ _ _|exact ih1 _ _ _ _ _ _ _|exact impl_PermOk.mono _ _|exact lo_|refine LeO.ite ?_ ?_|refine LeO.bind ?_ (fun _ => ?_)
    · intro y0 y1 y2 y3 y4 y5 y6
      unfold impl_CyclesOf.l1
      repeat' first|exact ih0 _ _ _ _ _|exact ih1 _ _ _ _ _ _ _|exact impl_PermOk.mono _ _|exact lo_|refine LeO.ite ?_ ?_|refine LeO.bind ?_ (fun _ => ?_)
theorem impl_CyclesOf.mono : ∀ a0 k, LeO (impl_CyclesOf.f k a0) (impl_CyclesOf.f (k + 1) a0) := by
  intro a0 k
  obtain ⟨ih0, ih1⟩ := impl_CyclesOf.mono_l k
  unfold impl_CyclesOf.f
  repeat' first|exact ih0 _ _ _ _ _|exact ih1 _ _ _ _ _ _ _|exact impl_PermOk.mono _ _|exact lo_|refine LeO.ite ?_ ?_|refine LeO.bind ?_ (fun _ => ?_)
set_option maxHeartbeats 8000000 in
set_option maxRecDepth 100000 in
theorem impl_CyclesOf.calls (k : Nat) (A0 : Option Addr) (c0 : Nat) (l0 : List Int) (r : List (List Int)) (w : World) (hr0 : Kd.C (Kd.int .i64) w A0 l0.length l0) (hc0 : l0.length ≤ c0) (h : impl_CyclesOf.f k l0 = some r) :
    Calls Try.prog 56 #[.slice A0 l0.length c0] w fun e w' => ∃ v0_ : Value, e = .returned (v0_) ∧ Kd.S (Kd.slice 3 (Kd.int .i64)) 22 w' w.heap.size (fun _ => True) v0_ r ∧ Below w.heap.size w w' := by
  have HR0 := Aside0.mk hr0
  have HC0 := Aside0.mk hc0
  clear hr0 hc0
  have HB := Aside0.mk (Below.refl w.heap.size w)
  have H := h
  unfold impl_CyclesOf.f at H
  clear h
  obtain ⟨t420, A2, H⟩ := bi_ H
  by_cases c3 : t420 = true
  · subst c3
    rw [if_pos rfl] at H
    have c4 := cp_ H
    replace H := ca_ H
    have c4b0 := eq_true c4
    have c4b1 := decide_eq_true c4
    clear c4
    have c5 := cp_ H
    replace H := ca_ H
    have c5b0 := eq_true c5
    have c5b1 := decide_eq_true c5
    clear c5
    obtain ⟨y421, hy421⟩ : ∃ y_ : List Bool, y_ = (List.replicate ((l0.length : Int) : Int).toNat false) := ⟨_, rfl⟩
    replace H : (impl_CyclesOf.l0 k l0 y421 (([] : List (List Int))) (l0.length : Int) 0) = some r := by first | (rw [hy421]; exact H) | exact H
    have Ny421 := Aside0.mk hy421
    clear hy421
    obtain ⟨y424, hy424⟩ : ∃ y_ : List (List Int), y_ = (([] : List (List Int))) := ⟨_, rfl⟩
    replace H : (impl_CyclesOf.l0 k l0 y421 y424 (l0.length : Int) 0) = some r := by first | (rw [hy424]; exact H) | exact H
    have Ny424 := Aside0.mk hy424
    clear hy424
    have H' := Aside0.mk H
    clear H
    go_enter Try.func56, Try.ntmps56
    go_wp2_with (first | ((with_reducible refine gate_callee (f := 98) rfl ?_); refine gL_ (some 9) Try.func98 #[.slice A0 l0.length c0] rfl qa_ ?_; (with_reducible refine (impl_PermOk.calls k _ _ l0 true _ (cc_ HR0) HC0.out A2.out).mono ?_); rintro e w6 ⟨rfl, hb⟩; refine ⟨_, rfl, ?_⟩; replace HB := b1_ hb; clear hb) | ((with_reducible refine gate_dst (N := 13) rfl ?_); refine Kd.R_make Kd.bool _ 4 rfl (N := 13) rfl 98 _ _ rfl (l0.length : Int) rfl rfl Try.underlying98 (.bool false) 1 info4 rfl (by decide) (by omega) false (ok := fun _ => True) (okp := fun _ => True) rfl (fun _ hk => hk) trivial (of_decide_eq_true qe_) (Nat.le_trans (Nat.mul_le_mul_right _ (of_decide_eq_true qe_ : (l0.length : Int).toNat ≤ 281474976710656)) (by omega)) (Below.refl _ _) (Nat.le_refl _) ?_; intro v422 w7 ho8 hb hg_ hnew_; clear hg_ hnew_; (first | rw [← Ny421.out] at ho8 | (simp only [Int.reduceToNat] at ho8; rw [← Ny421.out] at ho8)); have HO423 := rl_ w ho8; replace HB := b1_ hb; clear hb ho8) | ((with_reducible refine gate_dst (N := 14) rfl ?_); refine Kd.S_lit (Kd.slice 3 (Kd.int .i64)) _ 22 ?hg (N := 14) ?hd (xs := ([] : List (List Int))) (inner := []) (ok := fun _ => True) (okp := fun _ => True) ?hr ?hp (fun _ hk => hk) trivial (Below.refl _ _) (Nat.le_refl _) (by simp) ?_; (case hd => rfl); (case hg => rfl); (case hr => first | (go_simp; done) | (go_simp; rfl)); (case hp => exact (Reps.none _ _)); intro v425 w9 ho10 hb hg_ hnew_; clear hg_ hnew_; (first | rw [← Ny424.out] at ho10 | (simp only [Int.reduceToNat] at ho10; rw [← Ny424.out] at ho10)); replace HO423 := rb_ HO423 hb; have HO426 := Aside0.mk (Kd.S_lower ho10 (below_size hB_)); replace HB := b1_ hb; clear hb ho10))
    go_loopg [4, 17] k (fun kq v4 v17 w' => ∃ (x3_1 : List Bool) (x4_1 : List (List Int)) (x17_1 : Int), v17 = .int .i64 x17_1 ∧ Aside0 (impl_CyclesOf.l0 kq l0 x3_1 x4_1 (l0.length : Int) x17_1 = some r) ∧ Aside0 (kq ≤ k) ∧ Aside0 (Kd.R Kd.bool 4 w' w.heap.size (fun _ => True) v422 x3_1) ∧ Aside0 (Kd.S (Kd.slice 3 (Kd.int .i64)) 22 w' w.heap.size (fun _ => True) v4 x4_1) ∧ Aside0 (Below w.heap.size w w'))
    case atStart => exact ⟨(y421), (y424), (0), qc_, H', ⟨Nat.le_refl _⟩, ⟨(rr_ HO423)⟩, ⟨(ss_ HO426)⟩, ⟨hB_⟩⟩
    case round =>
      clear H'
      obtain ⟨x3_1, x4_1, x17_1, rfl, HA, HK1, HO_3, HO_4, HB⟩ := hrel
      cases gk with
      | zero => exact absurd HA.out (by simp [impl_CyclesOf.l0])
      | succ k1 =>
        have H := HA.out
        clear HA
        simp only [impl_CyclesOf.l0] at H
        by_cases c11 : x17_1 < (l0.length : Int)
        · rw [if_pos c11] at H
          have c11b0 := decide_eq_true c11
          clear c11
          have c12 := cp_ H
          replace H := ca_ H
          have c12b0 := decide_eq_true c12
          clear c12
          have c13 := cp_ H
          replace H := ca_ H
          have c13b0 := decide_eq_true c13
          clear c13
          obtain ⟨bq14, hbq14⟩ : ∃ b_ : Bool, b_ = (rdOf false x3_1 x17_1) := ⟨_, rfl⟩
          replace H : (if bq14 = true then (impl_CyclesOf.l0 k1 l0 x3_1 x4_1 (l0.length : Int) (wrap64 (x17_1 + 1))) else (impl_CyclesOf.l1 k1 l0 x3_1 x4_1 (([] : List Int)) x17_1 (l0.length : Int) x17_1)) = some r := by rw [← hbq14] at H; exact H
          have Nbq14 := Aside0.mk hbq14
          clear hbq14
          by_cases c15 : bq14 = true
          · subst c15
            rw [if_pos rfl] at H
            have H' := Aside0.mk H
            clear H
            obtain ⟨Ao16, co16, eo16⟩ := Kd.R_slice HO_3.out
            subst eo16
            have p427 : 0 ≤ (x17_1 : Int) := of_decide_eq_true qe_
            have q427 : x17_1 < (x3_1.length : Int) := of_decide_eq_true qe_
            obtain ⟨ad427, e427, hx427_0⟩ := Kd.at_bool (Kd.R_reads' HO_3.out).2.2 x17_1 p427 q427
            (try rw [← Nbq14.out] at hx427_0)
            cases e427
            replace p427 := eq_true p427
            replace q427 := eq_true q427
            go_wp2
            go_roundg k1
            case measure => have := HK1.out; omega
            case rel => exact ⟨(x3_1), (x4_1), (wrap64 (x17_1 + 1)), qc_, H', ⟨by have := HK1.out; omega⟩, ⟨(rr_ HO_3)⟩, ⟨(ss_ HO_4)⟩, ⟨hB_⟩⟩
          · replace c15 := Bool.eq_false_iff.mpr c15
            subst c15
            have H1 : (impl_CyclesOf.l1 k1 l0 x3_1 x4_1 (([] : List Int)) x17_1 (l0.length : Int) x17_1) = some r := by rw [if_neg (show ¬ (false = true) by decide)] at H; exact H
            clear H
            have H := H1
            clear H1
            obtain ⟨y428, hy428⟩ : ∃ y_ : List Int, y_ = (([] : List Int)) := ⟨_, rfl⟩
            replace H : (impl_CyclesOf.l1 k1 l0 x3_1 x4_1 y428 x17_1 (l0.length : Int) x17_1) = some r := by first | (rw [hy428]; exact H) | exact H
            have Ny428 := Aside0.mk hy428
            clear hy428
            have H' := Aside0.mk H
            clear H
            obtain ⟨Ao17, co17, eo17⟩ := Kd.R_slice HO_3.out
            subst eo17
            have p427 : 0 ≤ (x17_1 : Int) := of_decide_eq_true qe_
            have q427 : x17_1 < (x3_1.length : Int) := of_decide_eq_true qe_
            obtain ⟨ad427, e427, hx427_0⟩ := Kd.at_bool (Kd.R_reads' HO_3.out).2.2 x17_1 p427 q427
            (try rw [← Nbq14.out] at hx427_0)
            cases e427
            obtain ⟨g427, rfl⟩ : ∃ g_, ad427 = (⟨g_, 0, none⟩ : Addr) := Kd.R_head HO_3.out
            (try simp only [add_plain] at hx427_0)
            replace p427 := eq_true p427
            replace q427 := eq_true q427
            go_wp2_with (first | ((with_reducible refine gate_dst (N := 24) rfl ?_); refine Kd.R_lit (Kd.int .i64) _ 3 ?hg (N := 24) ?hd (xs := ([] : List Int)) (inner := []) (ok := fun _ => True) (okp := fun _ => True) ?hr ?hp (fun _ hk => hk) trivial (Below.refl _ _) (Nat.le_refl _) (by simp) ?_; (case hd => rfl); (case hg => rfl); (case hr => first | (go_simp; done) | (go_simp; rfl)); (case hp => exact (Reps.none _ _)); intro v429 w18 ho19 hb hg_ hnew_; clear hg_ hnew_; (first | rw [← Ny428.out] at ho19 | (simp only [Int.reduceToNat] at ho19; rw [← Ny428.out] at ho19)); replace HO_3 := rb_ HO_3 hb; replace HO_4 := Aside0.mk (Kd.S_elder' (ss_ HO_4) (Kd.R_base ho19) hb); have HO430 := rl_ w ho19; replace HB := b1_ hb; clear hb ho19))
            go_loopg [6, 7] k1 (fun kq v6 v7 w' => ∃ (x3_2 : List Bool) (x6_2 : List Int) (x7_2 : Int), v7 = .int .i64 x7_2 ∧ Aside0 (impl_CyclesOf.l1 kq l0 x3_2 x4_1 x6_2 x7_2 (l0.length : Int) x17_1 = some r) ∧ Aside0 (kq ≤ k1) ∧ Aside0 (Kd.R Kd.bool 4 w' w.heap.size (fun _ => True) (.slice (some (⟨g427, 0, none⟩ : Addr)) x3_1.length co17) x3_2) ∧ Aside0 (Kd.S (Kd.slice 3 (Kd.int .i64)) 22 w' w.heap.size (fun k_ => some k_ ≠ (v6 : Value).ownBlock) u4 x4_1) ∧ Aside0 (Kd.R (Kd.int .i64) 3 w' w.heap.size (fun _ => True) v6 x6_2) ∧ Aside0 (Below w.heap.size w w'))
            case atStart => exact ⟨(x3_1), (y428), (x17_1), qc_, H', ⟨Nat.le_refl _⟩, ⟨(rr_ HO_3)⟩, ⟨(sw_ (Kd.S_mono HO_4.out (fun _ hk => hk.2)))⟩, ⟨(rr_ HO430)⟩, ⟨hB_⟩⟩
            case round =>
              clear H'
              obtain ⟨x3_2, x6_2, x7_2, rfl, HA, HK2, HO_3, HO_4, HO_6, HB⟩ := hrel
              have hl3_2 := (Kd.R_reads' HO_3.out).1
              rw [hl3_2] at HO_3
              (try simp only [hl3_2])
              (try simp only [hl3_2] at HO_4)
              (try simp only [hl3_2] at HO_6)
              cases gk with
              | zero => exact absurd HA.out (by simp [impl_CyclesOf.l1])
              | succ k2 =>
                have H := HA.out
                clear HA
                simp only [impl_CyclesOf.l1] at H
                have c20 := cp_ H
                replace H := ca_ H
                have c20b0 := decide_eq_true c20
                clear c20
                have c21 := cp_ H
                replace H := ca_ H
                have c21b0 := decide_eq_true c21
                clear c21
                obtain ⟨bq22, hbq22⟩ : ∃ b_ : Bool, b_ = (rdOf false x3_2 x7_2) := ⟨_, rfl⟩
                replace H : (if bq22 = true then (if x4_1.length < 5864062014805 then (impl_CyclesOf.l0 k2 l0 x3_2 (x4_1 ++ [x6_2]) (l0.length : Int) (wrap64 (x17_1 + 1))) else (none)) else (if x6_2.length < 17592186044416 then (if x7_2 < (l0.length : Int) then (impl_CyclesOf.l1 k2 l0 (x3_2.set (x7_2 : Int).toNat true) x4_1 (x6_2 ++ [x7_2]) (rd l0 x7_2) (l0.length : Int) x17_1) else (none)) else (none))) = some r := by rw [← hbq22] at H; exact H
                have Nbq22 := Aside0.mk hbq22
                clear hbq22
                by_cases c23 : bq22 = true
                · subst c23
                  rw [if_pos rfl] at H
                  have c24 := cp_ H
                  replace H := ca_ H
                  have LMc24 := Aside0.mk c24
                  clear c24
                  obtain ⟨y432, hy432⟩ : ∃ y_ : List (List Int), y_ = (x4_1 ++ [x6_2]) := ⟨_, rfl⟩
                  replace H : (impl_CyclesOf.l0 k2 l0 x3_2 y432 (l0.length : Int) (wrap64 (x17_1 + 1))) = some r := by first | (rw [hy432]; exact H) | exact H
                  have Ny432 := Aside0.mk hy432
                  clear hy432
                  have H' := Aside0.mk H
                  clear H
                  have p431 : 0 ≤ (x7_2 : Int) := of_decide_eq_true qe_
                  have q431 : x7_2 < (x3_2.length : Int) := of_decide_eq_true qe_
                  obtain ⟨ad431, e431, hx431_0⟩ := Kd.at_bool (Kd.R_reads' HO_3.out).2.2 x7_2 p431 q431
                  (try rw [← Nbq14.out] at hx431_0)
                  (try rw [← Nbq22.out] at hx431_0)
                  obtain rfl : (⟨g427, 0, none⟩ : Addr) = ad431 := (by injection e431)
                  (try simp only [add_plain] at hx431_0)
                  replace p431 := eq_true p431
                  replace q431 := eq_true q431
                  obtain ⟨Ao26, co26, eo26⟩ := Kd.R_slice HO_6.out
                  subst eo26
                  go_wp2_with (first | ((with_reducible refine gate_builtin (b := .append) (xs := #[.tmp 42, .tmp 44]) rfl ?_); at_builtin; refine Kd.S_append (Kd.slice 3 (Kd.int .i64)) (w0 := w) w.heap.size rfl (.tmp 42) (.tmp 44) 40 22 (.slice none 0 0) 24 rfl Try.underlying40 info22 rfl (by decide) (by omega) u4 x4_1 x6_2 [.slice Ao26 x6_2.length co26] (fun _ => True) (fun k_ => some k_ = (.slice Ao26 x6_2.length co26 : Value).ownBlock) rfl rfl ?aP (fun k_ hk_ => ((Kd.R_mono (ok' := fun k_ => ((fun _ => True)) k_ ∧ some k_ ≠ (u4 : Value).ownBlock) (Kd.R_apart' (HO_6.out) (Kd.S_typed HO_4.out) (by decide)) (fun k_ hk => ⟨trivial, hk.2⟩))).1 k_ hk_.symm) ?aF ?aO ?aB ?aS ?aL ?_; (case aP => exact Kd.M_row (Kd.R_mono (Kd.R_tight rfl (Kd.R_mono (ok' := fun k_ => ((fun _ => True)) k_ ∧ some k_ ≠ (u4 : Value).ownBlock) (Kd.R_apart' (HO_6.out) (Kd.S_typed HO_4.out) (by decide)) (fun k_ hk => ⟨trivial, hk.2⟩))) (fun _ h_ => h_))); (case aB => exact hB_); (case aF => exact (fun _ _ => trivial)); (case aO => exact (sw_ (Kd.S_mono HO_4.out (fun k_ hk => ⟨trivial, fun e_ => hk e_⟩)))); (case aS => exact (below_size hB_)); (case aL => have := LMc24.out; omega); intro v433 w25 ho hb hg hat; rw [← Ny432.out] at ho; replace HO_3 := Aside0.mk (Kd.R_over' (rr_ HO_3) (Kd.S_typed (ss_ HO_4)) (by decide) hg); replace HB := Aside0.mk hb; have HO434 := Aside0.mk ho; clear HO_4 HO_6; clear ho hb hg hat))
                  (try simp only [← hl3_2])
                  go_roundg k2
                  case measure => have := HK1.out; have := HK2.out; omega
                  case rel => exact ⟨(x3_2), (y432), (wrap64 (x17_1 + 1)), qc_, H', ⟨by have := HK1.out; have := HK2.out; omega⟩, ⟨by (try simp only [hl3_2]); (with_reducible repeat (first | apply Kd.R_alloc | apply Kd.R_drewN | apply Kd.R_drew)); exact HO_3.out⟩, ⟨by (try simp only [hl3_2]); (with_reducible repeat (first | apply Kd.S_alloc | apply Kd.S_drewN | apply Kd.S_drew)); exact HO434.out⟩, ⟨hB_⟩⟩
                · replace c23 := Bool.eq_false_iff.mpr c23
                  subst c23
                  have H1 : (if x6_2.length < 17592186044416 then (if x7_2 < (l0.length : Int) then (impl_CyclesOf.l1 k2 l0 (x3_2.set (x7_2 : Int).toNat true) x4_1 (x6_2 ++ [x7_2]) (rd l0 x7_2) (l0.length : Int) x17_1) else (none)) else (none)) = some r := by rw [if_neg (show ¬ (false = true) by decide)] at H; exact H
                  clear H
                  have H := H1
                  clear H1
                  obtain ⟨y435, hy435⟩ : ∃ y_ : List Bool, y_ = (x3_2.set (x7_2 : Int).toNat true) := ⟨_, rfl⟩
                  replace H : (if x6_2.length < 17592186044416 then (if x7_2 < (l0.length : Int) then (impl_CyclesOf.l1 k2 l0 y435 x4_1 (x6_2 ++ [x7_2]) (rd l0 x7_2) (l0.length : Int) x17_1) else (none)) else (none)) = some r := by first | (rw [hy435]; exact H) | exact H
                  have Ny435 := Aside0.mk hy435
                  clear hy435
                  have c28 := cp_ H
                  replace H := ca_ H
                  have LMc28 := Aside0.mk c28
                  clear c28
                  obtain ⟨y436, hy436⟩ : ∃ y_ : List Int, y_ = (x6_2 ++ [x7_2]) := ⟨_, rfl⟩
                  replace H : (if x7_2 < (l0.length : Int) then (impl_CyclesOf.l1 k2 l0 y435 x4_1 y436 (rd l0 x7_2) (l0.length : Int) x17_1) else (none)) = some r := by first | (rw [hy436]; exact H) | exact H
                  have Ny436 := Aside0.mk hy436
                  clear hy436
                  have c29 := cp_ H
                  replace H := ca_ H
                  have c29b0 := decide_eq_true c29
                  clear c29
                  have H' := Aside0.mk H
                  clear H
                  have p431 : 0 ≤ (x7_2 : Int) := of_decide_eq_true qe_
                  have q431 : x7_2 < (x3_2.length : Int) := of_decide_eq_true qe_
                  obtain ⟨ad431, e431, hx431_0⟩ := Kd.at_bool (Kd.R_reads' HO_3.out).2.2 x7_2 p431 q431
                  (try rw [← Nbq14.out] at hx431_0)
                  (try rw [← Nbq22.out] at hx431_0)
                  obtain rfl : (⟨g427, 0, none⟩ : Addr) = ad431 := (by injection e431)
                  (try simp only [add_plain] at hx431_0)
                  replace p431 := eq_true p431
                  replace q431 := eq_true q431
                  have p27 : 0 ≤ (x7_2 : Int) := of_decide_eq_true qe_
                  have q27 : (x7_2 : Int) < ((x3_2.length : Int) : Int) := of_decide_eq_true qe_
                  obtain ⟨go27, co27, eo27, gb27, gl27, cl27, HG27⟩ := Kd.R_form HO_3.out (by omega)
                  (first | cases eo27 | (injection eo27 with ea_ en_ ec_; (first | subst ea_ | (injection ea_ with ea_; subst ea_)); subst ec_; clear en_))
                  have GB27 := Aside0.mk gb27
                  have GG27 := Aside0.mk HG27
                  clear gb27 gl27 HG27
                  (first | simp only [add_plain] at hx427_0 | skip)
                  (first | simp only [add_plain] at hx431_0 | skip)
                  obtain ⟨hx27_0, hf27_0⟩ := Kd.R_celln false HO_3.out (x7_2 : Int) p27 q27
                  replace p27 := eq_true p27
                  replace q27 := eq_true q27
                  have HP30 := Kd.R_putg HO_3.out (x7_2 : Int) true
                  go_wp2_with (first | ((with_reducible refine gate_store (t := 4) (p := 37) rfl ?_); refine store_event (t := 4) (p := 37) (v := ?vo_w31) (w1 := (wr.setCell ⟨g427, (x7_2 : Int).toNat, none⟩ (.bool true))) ?hg ?ho ?hn ?hr ?_; (case ho => rfl); (case hg => rfl); (case hn => rfl); (case hr => first | (go_simp; done) | (go_simp; rfl)); intro w31 hw; have hg : wr.grownBy w31 (some g427) := (by rw [hw]; exact HP30.2); have hp_ : Kd.R Kd.bool 4 w31 w.heap.size (fun _ => True) (.slice (some ⟨g427, 0, none⟩) x3_2.length co17) y435 := (by rw [hw, Ny435.out]; exact HP30.1); clear HP30; replace HO_4 := Aside0.mk (Kd.S_over' (v := (.slice (some ⟨g427, 0, none⟩) x3_2.length co17)) (ss_ HO_4) (Kd.R_typed HO_3.out) (by decide) hg); replace HO_6 := Aside0.mk (Kd.R_over' (v := (.slice (some ⟨g427, 0, none⟩) x3_2.length co17)) (rr_ HO_6) (Kd.R_typed HO_3.out) (by decide) hg); replace HO_3 := Aside0.mk (hp_); replace HB := Aside0.mk ((by rw [hw]; exact below_set (HB.out) GB27.out : Below w.heap.size w w31)); clear hg hw hp_) | ((with_reducible refine gate_builtin (b := .append) (xs := #[.tmp 38, .tmp 40]) rfl ?_); at_builtin; refine Kd.R_append (Kd.int .i64) (w0 := w) w.heap.size rfl (.tmp 38) (.tmp 40) 22 3 (.int .i64 0) 8 rfl Try.underlying22 info3 rfl (by decide) (by omega) u6 x6_2 x7_2 [.int .i64 x7_2] (fun _ => True) (fun _ => False) rfl rfl ?aP (fun _ hk => hk.elim) ?aF ?aO ?aB ?aS ?aL ?_; (case aP => exact rfl); (case aB => exact hB_); (case aF => exact (fun _ _ => trivial)); (case aO => exact (rr_ HO_6)); (case aS => exact (below_size hB_)); (case aL => have := LMc28.out; omega); intro v437 w32 ho hb hg hat; rw [← Ny436.out] at ho; replace HO_3 := Aside0.mk (Kd.R_over' (rr_ HO_3) (Kd.R_typed (rr_ HO_6)) (by decide) hg); replace HO_4 := Aside0.mk (Kd.S_after (ok := (fun _ => True)) (sw_ (Kd.S_mono HO_4.out (fun _ hk => ⟨trivial, hk⟩))) hg hat); replace HB := Aside0.mk hb; have HO438 := Aside0.mk ho; clear HO_6; clear ho hb hg hat; have p439 : 0 ≤ (x7_2 : Int) := of_decide_eq_true qe_; have q439 : x7_2 < (l0.length : Int) := of_decide_eq_true qe_; obtain ⟨ad439, e439, hx439_0⟩ := Kd.at_int HR0.out x7_2 p439 q439; cases e439; replace hx439_0 := (HB.out.cell (World.block_lt_of_cell? w _ hx439_0)).trans hx439_0; replace p439 := eq_true p439; replace q439 := eq_true q439))
                  (try simp only [← hl3_2])
                  go_roundg k2
                  case measure => have := HK1.out; have := HK2.out; omega
                  case rel => exact ⟨(y435), (y436), (rd l0 x7_2), qc_, H', ⟨by have := HK1.out; have := HK2.out; omega⟩, ⟨by (try simp only [hl3_2]); (with_reducible repeat (first | apply Kd.R_alloc | apply Kd.R_drewN | apply Kd.R_drew)); exact HO_3.out⟩, ⟨by (try simp only [hl3_2]); (with_reducible repeat (first | apply Kd.S_alloc | apply Kd.S_drewN | apply Kd.S_drew)); exact Kd.S_mono HO_4.out (fun _ hk => hk.2)⟩, ⟨by (try simp only [hl3_2]); (with_reducible repeat (first | apply Kd.R_alloc | apply Kd.R_drewN | apply Kd.R_drew)); exact HO438.out⟩, ⟨hB_⟩⟩
        · rw [if_neg c11] at H
          have c11b0 := decide_eq_false c11
          clear c11
          obtain rfl := Option.some.inj H
          go_wp2
          go_ret
          exact ⟨_, qb_, (ss_ HO_4), hB_⟩
  · replace c3 := Bool.eq_false_iff.mpr c3
    subst c3
    have H1 : (some ([] : List (List Int))) = some r := by rw [if_neg (show ¬ (false = true) by decide)] at H; exact H
    clear H
    have H := H1
    clear H1
    obtain rfl := Option.some.inj H
    go_enter Try.func56, Try.ntmps56
    go_wp2_with (first | ((with_reducible refine gate_callee (f := 98) rfl ?_); refine gL_ (some 9) Try.func98 #[.slice A0 l0.length c0] rfl qa_ ?_; (with_reducible refine (impl_PermOk.calls k _ _ l0 false _ (cc_ HR0) HC0.out A2.out).mono ?_); rintro e w33 ⟨rfl, hb⟩; refine ⟨_, rfl, ?_⟩; replace HB := b1_ hb; clear hb))
    go_ret
    exact ⟨_, qb_, by first | exact Kd.S_nil _ _ _ _ _ | exact Kd.N_nil _ _ _ _ _ | exact Kd.V_nil _ _ _ _ _ | exact Kd.Q_nil _ _ _ _ _ | exact Kd.R_nil _ _ _ _ _, hB_⟩
end Go.Proofs.Ytbdnellgioimbaa.A
end
section
namespace Go.Proofs.Ytbdnellgioimbaa.A
open Go.RowKit Go.Proofs.YtbdnellgioimbaaW.PrintWords Go.Proofs.YtbdnellgioimbaaW.PrintLast Go.Proofs.YtbdnellgioimbaaW.PrintMore
attribute [local go_sem] max2_int min2_int max_two min_two max_three min_three max_four min_four
set_option linter.unusedVariables false
set_option linter.unusedSimpArgs false
def IsS105 (w0 W : World) (g : Nat) (f0 : List Int) (f1 : Int) (f2 : Int) : Prop := ∃ A0 c0, W.heap[g]? = some (.cells #[.slice A0 f0.length c0, .int .i64 f1, .int .i64 f2] 105 (0, 0)) ∧ w0.heap.size ≤ g ∧ Kd.C (Kd.int .u8) w0 A0 f0.length f0
theorem IsS105.grown {w0 W : World} {g : Nat} {f0 : List Int} {f1 : Int} {f2 : Int} {W1 : World} {row : Option Nat} (h : IsS105 w0 W g f0 f1 f2) (hw : W.grownBy W1 row) (hne : some g ≠ row) : IsS105 w0 W1 g f0 f1 f2 := by
  obtain ⟨A0, c0, hb, hg, hr0⟩ := h
  exact ⟨A0, c0, blk_grown hb hw hne, hg, hr0⟩
theorem IsS105.own_neN {w0 W : World} {g : Nat} {f0 : List Int} {f1 : Int} {f2 : Int} {α : Type} {d : Kd α} {e : Nat} {base : Nat} {ok : Nat → Prop} {v : Value} {xs : List α} (h : IsS105 w0 W g f0 f1 f2) (ho : Kd.N d e W base ok v xs) (ht : e ≠ 105) : some g ≠ v.ownBlock := by
  obtain ⟨A0, c0, hb, hg, hr0⟩ := h
  exact Kd.N_ne ho hb ht
theorem IsS105.fresh {w0 W : World} {g : Nat} {f0 : List Int} {f1 : Int} {f2 : Int} (h : IsS105 w0 W g f0 f1 f2) : ∀ k, W.heap.size ≤ k → k ≠ g := by
  obtain ⟨A0, c0, hb, hg, hr0⟩ := h
  exact Kd.freshB hb
theorem IsS105.kept {w0 W : World} {g : Nat} {f0 : List Int} {f1 : Int} {f2 : Int} {W1 : World} {S : Nat → Prop} (h : IsS105 w0 W g f0 f1 f2) (hk : Kept W W1 S) (hne : ¬ S g) : IsS105 w0 W1 g f0 f1 f2 := by
  obtain ⟨A0, c0, hb, hg, hr0⟩ := h
  exact ⟨A0, c0, blk_kept hb hk hne, hg, hr0⟩
theorem IsS105.below {w0 W : World} {g : Nat} {f0 : List Int} {f1 : Int} {f2 : Int} {W1 : World} (h : IsS105 w0 W g f0 f1 f2) (hw : Below W.heap.size W W1) : IsS105 w0 W1 g f0 f1 f2 := h.grown (grown_of_below hw none) (by simp)
theorem IsS105.alloc {w0 W : World} {g : Nat} {f0 : List Int} {f1 : Int} {f2 : Int} (h : IsS105 w0 W g f0 f1 f2) (o : Obj) : IsS105 w0 (W.alloc o) g f0 f1 f2 := h.below (below_alloc (Below.refl _ _) o)
theorem IsS105.drewN {w0 W : World} {g : Nat} {f0 : List Int} {f1 : Int} {f2 : Int} (h : IsS105 w0 W g f0 f1 f2) (m : Nat) : IsS105 w0 (W.drewN m) g f0 f1 f2 := h
theorem IsS105.drew {w0 W : World} {g : Nat} {f0 : List Int} {f1 : Int} {f2 : Int} (h : IsS105 w0 W g f0 f1 f2) : IsS105 w0 W.drew g f0 f1 f2 := h
theorem IsS105.at_ {w0 W : World} {g : Nat} {f0 : List Int} {f1 : Int} {f2 : Int} {w' : World} {m : Nat} (hq : W.drewN m = w') (h : IsS105 w0 W g f0 f1 f2) : IsS105 w0 w' g f0 f1 f2 := by subst hq; exact IsS105.drewN h m
theorem IsS105.apart {w0 W : World} {g : Nat} {f0 : List Int} {f1 : Int} {f2 : Int} {α : Type} {d : Kd α} {e : Nat} {base : Nat} {ok : Nat → Prop} {v : Value} {xs : List α} (h : IsS105 w0 W g f0 f1 f2) (ho : d.R e W base ok v xs) (ht : ∀ q, q ∈ e :: d.E → q ≠ 105) : d.R e W base (fun k => ok k ∧ k ≠ g) v xs := by
  obtain ⟨A0, c0, hb, hg, hr0⟩ := h
  exact Kd.R_types ho hb ht
theorem IsS105.own_ne {w0 W : World} {g : Nat} {f0 : List Int} {f1 : Int} {f2 : Int} {α : Type} {d : Kd α} {e : Nat} {base : Nat} {ok : Nat → Prop} {v : Value} {xs : List α} (h : IsS105 w0 W g f0 f1 f2) (ho : d.R e W base ok v xs) (ht : e ≠ 105) : some g ≠ v.ownBlock := by
  obtain ⟨A0, c0, hb, hg, hr0⟩ := h
  exact Kd.R_ne ho hb ht
theorem IsS105.apartQ {w0 W : World} {g : Nat} {f0 : List Int} {f1 : Int} {f2 : Int} {α : Type} {d : Kd α} {e : Nat} {base : Nat} {ok : Nat → Prop} {v : Value} {xs : List α} (h : IsS105 w0 W g f0 f1 f2) (ho : d.Q e W base ok v xs) (ht : ∀ q, q ∈ e :: d.E → q ≠ 105) : d.Q e W base (fun k => ok k ∧ k ≠ g) v xs := by
  obtain ⟨A0, c0, hb, hg, hr0⟩ := h
  exact Kd.Q_types ho hb ht
theorem IsS105.own_neQ {w0 W : World} {g : Nat} {f0 : List Int} {f1 : Int} {f2 : Int} {α : Type} {d : Kd α} {e : Nat} {base : Nat} {ok : Nat → Prop} {v : Value} {xs : List α} (h : IsS105 w0 W g f0 f1 f2) (ho : d.Q e W base ok v xs) (ht : e ≠ 105) : some g ≠ v.ownBlock := by
  obtain ⟨A0, c0, hb, hg, hr0⟩ := h
  exact Kd.Q_ne ho hb ht
theorem IsS105.apartS {w0 W : World} {g : Nat} {f0 : List Int} {f1 : Int} {f2 : Int} {α : Type} {d : Kd α} {e : Nat} {base : Nat} {ok : Nat → Prop} {v : Value} {xs : List α} (h : IsS105 w0 W g f0 f1 f2) (ho : d.S e W base ok v xs) (ht : ∀ q, q ∈ e :: d.E → q ≠ 105) : d.S e W base (fun k => ok k ∧ k ≠ g) v xs := by
  obtain ⟨A0, c0, hb, hg, hr0⟩ := h
  exact Kd.S_types ho hb ht
theorem IsS105.own_neS {w0 W : World} {g : Nat} {f0 : List Int} {f1 : Int} {f2 : Int} {α : Type} {d : Kd α} {e : Nat} {base : Nat} {ok : Nat → Prop} {v : Value} {xs : List α} (h : IsS105 w0 W g f0 f1 f2) (ho : d.S e W base ok v xs) (ht : e ≠ 105) : some g ≠ v.ownBlock := by
  obtain ⟨A0, c0, hb, hg, hr0⟩ := h
  exact Kd.S_ne ho hb ht
theorem IsS105.lt {w0 W : World} {g : Nat} {f0 : List Int} {f1 : Int} {f2 : Int} (h : IsS105 w0 W g f0 f1 f2) : g < W.heap.size := by
  obtain ⟨A0, c0, hb, hg, hr0⟩ := h
  exact blk_lt hb
theorem IsS105.ge {w0 W : World} {g : Nat} {f0 : List Int} {f1 : Int} {f2 : Int} (h : IsS105 w0 W g f0 f1 f2) : w0.heap.size ≤ g := by
  obtain ⟨A0, c0, hb, hg, hr0⟩ := h
  exact hg
theorem IsS105.ne_blk {w0 W : World} {g : Nat} {f0 : List Int} {f1 : Int} {f2 : Int} {a : Nat} {cs : Array Value} {t : TypeId} {fr : Nat × Nat} (h : IsS105 w0 W g f0 f1 f2) (hb2 : W.heap[a]? = some (.cells cs t fr)) (ht : t ≠ 105) : g ≠ a := by
  obtain ⟨A0, c0, hb, hg, hr0⟩ := h
  rintro rfl
  rw [hb] at hb2
  injection hb2 with hb2
  injection hb2 with _ ht2
  exact ht ht2.symm
theorem IsS105.far {w0 W : World} {g : Nat} {f0 : List Int} {f1 : Int} {f2 : Int} {p : Addr} (h : IsS105 w0 W g f0 f1 f2) (hne : g ≠ p.block) (u : Value) : IsS105 w0 (W.setCell p u) g f0 f1 f2 := by
  obtain ⟨A0, c0, hb, hg, hr0⟩ := h
  exact ⟨A0, c0, blk_far hb hne u, hg, hr0⟩
theorem cellS105_0 {W : World} {g : Nat} {A0 : Option Addr} {c0 : Nat} {f0 : List Int} {f1 : Int} {f2 : Int} (h : W.heap[g]? = some (.cells #[.slice A0 f0.length c0, .int .i64 f1, .int .i64 f2] 105 (0, 0))) : W.cell? ⟨g, 0, none⟩ = some (.slice A0 f0.length c0) := (blk_cell h 0).trans rfl
theorem cellS105_1 {W : World} {g : Nat} {A0 : Option Addr} {c0 : Nat} {f0 : List Int} {f1 : Int} {f2 : Int} (h : W.heap[g]? = some (.cells #[.slice A0 f0.length c0, .int .i64 f1, .int .i64 f2] 105 (0, 0))) : W.cell? ⟨g, 1, none⟩ = some (.int .i64 f1) := (blk_cell h 1).trans rfl
theorem IsS105.set_1 {w0 W : World} {g : Nat} {f0 : List Int} {f1 : Int} {f2 : Int} (h : IsS105 w0 W g f0 f1 f2) (x : Int) : IsS105 w0 (W.setCell ⟨g, 1, none⟩ (.int .i64 x)) g f0 x f2 := by
  obtain ⟨A0, c0, hb, hg, hr0⟩ := h
  exact ⟨A0, c0, by simpa using blk_set hb 1 (.int .i64 x), hg, hr0⟩
theorem cellS105_2 {W : World} {g : Nat} {A0 : Option Addr} {c0 : Nat} {f0 : List Int} {f1 : Int} {f2 : Int} (h : W.heap[g]? = some (.cells #[.slice A0 f0.length c0, .int .i64 f1, .int .i64 f2] 105 (0, 0))) : W.cell? ⟨g, 2, none⟩ = some (.int .i64 f2) := (blk_cell h 2).trans rfl
theorem IsS105.set_2 {w0 W : World} {g : Nat} {f0 : List Int} {f1 : Int} {f2 : Int} (h : IsS105 w0 W g f0 f1 f2) (x : Int) : IsS105 w0 (W.setCell ⟨g, 2, none⟩ (.int .i64 x)) g f0 f1 x := by
  obtain ⟨A0, c0, hb, hg, hr0⟩ := h
  exact ⟨A0, c0, by simpa using blk_set hb 2 (.int .i64 x), hg, hr0⟩
theorem IsS105.new (w0 W : World) (A0 : Option Addr) (c0 : Nat) (f0 : List Int) (f1 : Int) (f2 : Int) (hB : Below w0.heap.size w0 W) (hr0 : Kd.C (Kd.int .u8) w0 A0 f0.length f0) : IsS105 w0 (W.alloc (.cells #[.slice A0 f0.length c0, .int .i64 f1, .int .i64 f2] 105)) W.heap.size f0 f1 f2 := ⟨A0, c0, by simpa using heap_alloc_new W _, hB.size, hr0⟩
def spec_l01New.l0 : Nat → List Int → Int → Int → Option (List Int × Int × Int)
  | 0, _, _, _ => none
  | k + 1, x0, x3, x4 => if x4 < (x0.length : Int) then (if x4 < 4000 then (if 0 ≤ x4 then (spec_l01New.l0 k x0 (Go.bits .and .i64 (wrap64 ((wrap64 ((wrap64 (x3 * 109)) + (wrap64 (rd x0 x4)))) + 7)) 1073741823) (wrap64 (x4 + 1))) else (none)) else (some (x0, 0, x3))) else (some (x0, 0, x3))
def spec_l01New.f (k : Nat) (l0 : List Int) : Option (List Int × Int × Int) := spec_l01New.l0 k l0 (wrap64 (2073 + (l0.length : Int))) 0
theorem spec_l01New.mono_l : ∀ k, (∀ y0 y1 y2, LeO (spec_l01New.l0 k y0 y1 y2) (spec_l01New.l0 (k + 1) y0 y1 y2))
  | 0 => fun _ _ _ r h => by simp [spec_l01New.l0] at h
  | k + 1 => by
    have ih0 := spec_l01New.mono_l k
    · intro y0 y1 y2
      unfold spec_l01New.l0
      repeat' first|exact ih0 _ _ _|exact lo_|refine LeO.ite ?_ ?_|refine LeO.bind ?_ (fun _ => ?_)
theorem spec_l01New.mono : ∀ a0 k, LeO (spec_l01New.f k a0) (spec_l01New.f (k + 1) a0) := by
  intro a0 k
  have ih0 := spec_l01New.mono_l k
  unfold spec_l01New.f
  repeat' first|exact ih0 _ _ _|exact lo_|refine LeO.ite ?_ ?_|refine LeO.bind ?_ (fun _ => ?_)
set_option maxHeartbeats 8000000 in
set_option maxRecDepth 100000 in
theorem spec_l01New.callsW (k : Nat) (A0 : Option Addr) (c0 : Nat) (l0 : List Int) (r1 : List Int) (r2 : Int) (r3 : Int) (w0 w : World) (hB : Below w0.heap.size w0 w) (hr0 : Kd.C (Kd.int .u8) w0 A0 l0.length l0) (hc0 : l0.length ≤ c0) (h : spec_l01New.f k l0 = some (r1, r2, r3)) :
    Calls Try.prog 71 #[.slice A0 l0.length c0] w fun e w' => ∃ g_ : Nat, e = .returned (.pointer (some ⟨g_, 0, none⟩)) ∧ IsS105 w0 w' g_ r1 r2 r3 ∧ Below w0.heap.size w0 w' ∧ Below w.heap.size w w' ∧ w.heap.size ≤ g_ := by
  have hu105 := Try.underlying105
  have HR0 := Aside0.mk hr0
  have HC0 := Aside0.mk hc0
  clear hr0 hc0
  have HBW := Aside0.mk (Below.refl w.heap.size w)
  have HW0 := Aside0.mk hB.size
  have HB := Aside0.mk hB
  clear hB
  have H := h
  unfold spec_l01New.f at H
  clear h
  have H' := Aside0.mk H
  clear H
  go_enter Try.func71, Try.ntmps71
  go_wp2
  go_loopg [3, 4] k (fun kq v3 v4 w' => ∃ (x3_1 : Int) (x4_1 : Int), v3 = .int .i64 x3_1 ∧ v4 = .int .i64 x4_1 ∧ Aside0 (spec_l01New.l0 kq l0 x3_1 x4_1 = some (r1, r2, r3)) ∧ Aside0 (kq ≤ k) ∧ Aside0 (Below w0.heap.size w0 w') ∧ Aside0 (Below w.heap.size w w'))
  case atStart => exact ⟨(wrap64 (2073 + (l0.length : Int))), (0), qc_, qc_, H', ⟨Nat.le_refl _⟩, ⟨hB_⟩, ⟨by repeat (first | (with_reducible first | exact HBW.out | apply below_alloc | apply pw_below_drewN | apply below_drew1) | exact HBW.out)⟩⟩
  case round =>
    clear H'
    obtain ⟨x3_1, x4_1, rfl, rfl, HA, HK1, HB, HBW⟩ := hrel
    cases gk with
    | zero => exact absurd HA.out (by simp [spec_l01New.l0])
    | succ k1 =>
      have H := HA.out
      clear HA
      simp only [spec_l01New.l0] at H
      by_cases c2 : x4_1 < (l0.length : Int)
      · rw [if_pos c2] at H
        have c2b0 := decide_eq_true c2
        clear c2
        by_cases c3 : x4_1 < 4000
        · rw [if_pos c3] at H
          have c3b0 := decide_eq_true c3
          clear c3
          have c4 := cp_ H
          replace H := ca_ H
          have c4b0 := decide_eq_true c4
          clear c4
          have H' := Aside0.mk H
          clear H
          have p781 : 0 ≤ (x4_1 : Int) := of_decide_eq_true qe_
          have q781 : x4_1 < (l0.length : Int) := of_decide_eq_true qe_
          obtain ⟨ad781, e781, hx781_0⟩ := Kd.at_int HR0.out x4_1 p781 q781
          cases e781
          replace hx781_0 := pw_cell_below HB.out hx781_0
          replace p781 := eq_true p781
          replace q781 := eq_true q781
          go_wp2
          go_roundg k1
          case measure => have := HK1.out; omega
          case rel => exact ⟨(Go.bits .and .i64 (wrap64 ((wrap64 ((wrap64 (x3_1 * 109)) + (wrap64 (rd l0 x4_1)))) + 7)) 1073741823), (wrap64 (x4_1 + 1)), qc_, qc_, H', ⟨by have := HK1.out; omega⟩, ⟨hB_⟩, ⟨by repeat (first | (with_reducible first | exact HBW.out | apply below_alloc | apply pw_below_drewN | apply below_drew1) | exact HBW.out)⟩⟩
        · rw [if_neg c3] at H
          have c3b0 := decide_eq_false c3
          clear c3
          simp only [Option.some.injEq, Prod.mk.injEq] at H
          obtain ⟨rfl, rfl, rfl⟩ := H
          go_wp2_with (first | ((with_reducible refine gate_dst (N := 31) rfl ?_); refine bx_ 31 #[.slice A0 l0.length c0, .int .i64 0, .int .i64 x3_1] 105 ?_; intro gb782 hg w5 hbox hb; replace HB := b1_ hb; have BK782 := Aside0.mk hbox; have GW782 := Aside0.mk ((gx_ hg (below_size (by repeat (first | (with_reducible first | exact HBW.out | apply below_alloc | apply pw_below_drewN | apply below_drew1) | exact HBW.out))) : w.heap.size ≤ gb782)); have GE782 := Aside0.mk ((Nat.le_trans HW0.out (gx_ hg (below_size (by repeat (first | (with_reducible first | exact HBW.out | apply below_alloc | apply pw_below_drewN | apply below_drew1) | exact HBW.out))) : w.heap.size ≤ gb782) : w0.heap.size ≤ gb782)); replace HBW := Aside0.mk (below_step HBW.out hb); clear hb hbox hg))
          go_ret
          exact ⟨_, rfl, (show IsS105 w0 _ gb782 l0 0 x3_1 from ⟨_, _, (kk_ BK782), GE782.out, HR0.out⟩), hB_, by repeat (first | (with_reducible first | exact HBW.out | apply below_alloc | apply pw_below_drewN | apply below_drew1 | refine below_set ?_ GW782.out) | exact HBW.out), GW782.out⟩
      · rw [if_neg c2] at H
        have c2b0 := decide_eq_false c2
        clear c2
        simp only [Option.some.injEq, Prod.mk.injEq] at H
        obtain ⟨rfl, rfl, rfl⟩ := H
        go_wp2_with (first | ((with_reducible refine gate_dst (N := 31) rfl ?_); refine bx_ 31 #[.slice A0 l0.length c0, .int .i64 0, .int .i64 x3_1] 105 ?_; intro gb783 hg w6 hbox hb; replace HB := b1_ hb; have BK783 := Aside0.mk hbox; have GW783 := Aside0.mk ((gx_ hg (below_size (by repeat (first | (with_reducible first | exact HBW.out | apply below_alloc | apply pw_below_drewN | apply below_drew1) | exact HBW.out))) : w.heap.size ≤ gb783)); have GE783 := Aside0.mk ((Nat.le_trans HW0.out (gx_ hg (below_size (by repeat (first | (with_reducible first | exact HBW.out | apply below_alloc | apply pw_below_drewN | apply below_drew1) | exact HBW.out))) : w.heap.size ≤ gb783) : w0.heap.size ≤ gb783)); replace HBW := Aside0.mk (below_step HBW.out hb); clear hb hbox hg))
        go_ret
        exact ⟨_, rfl, (show IsS105 w0 _ gb783 l0 0 x3_1 from ⟨_, _, (kk_ BK783), GE783.out, HR0.out⟩), hB_, by repeat (first | (with_reducible first | exact HBW.out | apply below_alloc | apply pw_below_drewN | apply below_drew1 | refine below_set ?_ GW783.out) | exact HBW.out), GW783.out⟩
theorem spec_l01New.calls (k : Nat) (A0 : Option Addr) (c0 : Nat) (l0 : List Int) (r1 : List Int) (r2 : Int) (r3 : Int) (w0 w : World) (hB : Below w0.heap.size w0 w) (hr0 : Kd.C (Kd.int .u8) w0 A0 l0.length l0) (hc0 : l0.length ≤ c0) (h : spec_l01New.f k l0 = some (r1, r2, r3)) :
    Calls Try.prog 71 #[.slice A0 l0.length c0] w fun e w' => ∃ g_ : Nat, e = .returned (.pointer (some ⟨g_, 0, none⟩)) ∧ IsS105 w0 w' g_ r1 r2 r3 ∧ Below w0.heap.size w0 w' ∧ Below w.heap.size w w' := by
  exact (spec_l01New.callsW k A0 c0 l0 r1 r2 r3 w0 w hB hr0 hc0 h).mono fun e w' ⟨g, h1, h2, h3, h4, _⟩ => ⟨g, h1, h2, h3, h4⟩
end Go.Proofs.Ytbdnellgioimbaa.A
end
section
namespace Go.Proofs.Ytbdnellgioimbaa.A
open Go.RowKit Go.Proofs.YtbdnellgioimbaaW.PrintWords Go.Proofs.YtbdnellgioimbaaW.PrintLast Go.Proofs.YtbdnellgioimbaaW.PrintMore
attribute [local go_sem] max2_int min2_int max_two min_two max_three min_three max_four min_four
set_option linter.unusedVariables false
set_option linter.unusedSimpArgs false
def spec_l01Byte.f (s0_0 : List Int) (s0_1 : Int) (s0_2 : Int) : Option (Int × Int × Int) := if s0_1 < (s0_0.length : Int) then (if 0 ≤ s0_1 then (some (Go.bits .and .i64 (wrap64 ((Go.bits .and .i64 (Go.bits .xor .i64 ((wrap64 ((wrap64 (s0_2 * 6364136223846793005)) + 1442695040888963407)) / 8589934592) ((wrap64 ((wrap64 (s0_2 * 6364136223846793005)) + 1442695040888963407)) / 35184372088832)) 255) + (wrap64 (rd s0_0 s0_1)))) 255, wrap64 (s0_1 + 1), wrap64 ((wrap64 (s0_2 * 6364136223846793005)) + 1442695040888963407))) else (none)) else (some (Go.bits .and .i64 (Go.bits .xor .i64 ((wrap64 ((wrap64 (s0_2 * 6364136223846793005)) + 1442695040888963407)) / 8589934592) ((wrap64 ((wrap64 (s0_2 * 6364136223846793005)) + 1442695040888963407)) / 35184372088832)) 255, s0_1, wrap64 ((wrap64 (s0_2 * 6364136223846793005)) + 1442695040888963407)))
set_option maxHeartbeats 8000000 in
set_option maxRecDepth 100000 in
theorem spec_l01Byte.calls (g : Nat) (s0_0 : List Int) (s0_1 : Int) (s0_2 : Int) (r1 : Int) (r2 : Int) (r3 : Int) (w0 w : World) (hI : IsS105 w0 w g s0_0 s0_1 s0_2) (hB : Below w0.heap.size w0 w) (h : spec_l01Byte.f s0_0 s0_1 s0_2 = some (r1, r2, r3)) :
    Calls Try.prog 88 #[.pointer (some ⟨g, 0, none⟩)] w fun e w' => e = .returned (.int .i64 r1) ∧ IsS105 w0 w' g s0_0 r2 r3 ∧ Below w0.heap.size w0 w' ∧ KeepBut w w' g none := by
  have HI0 := Aside0.mk hI
  have HK := Aside0.mk (KeepBut.refl w g none)
  have HL := Aside0.mk hB.size
  clear hI
  have HW0 := Aside0.mk hB.size
  have HB := Aside0.mk hB
  clear hB
  have H := h
  unfold spec_l01Byte.f at H
  clear h
  by_cases c2 : s0_1 < (s0_0.length : Int)
  · rw [if_pos c2] at H
    have c2b0 := decide_eq_true c2
    clear c2
    have c3 := cp_ H
    replace H := ca_ H
    have c3b0 := decide_eq_true c3
    clear c3
    simp only [Option.some.injEq, Prod.mk.injEq] at H
    obtain ⟨rfl, rfl, rfl⟩ := H
    obtain ⟨ASz4_0, cSz4_0, HGz4, hgz4, HSz4_0⟩ := HI0.out
    have hcz4_0 := cellS105_0 HGz4
    have hcz4_1 := cellS105_1 HGz4
    have hcz4_2 := cellS105_2 HGz4
    have hfz4_1 := blk_frozen HGz4 1
    have hfz4_2 := blk_frozen HGz4 2
    clear HGz4 hgz4
    have p784 : 0 ≤ (s0_1 : Int) := of_decide_eq_true qe_
    have q784 : s0_1 < (s0_0.length : Int) := of_decide_eq_true qe_
    obtain ⟨ad784, e784, hx784_0⟩ := Kd.at_int HSz4_0 s0_1 p784 q784
    cases e784
    have hn784_0 : ad784.block ≠ g := Nat.ne_of_lt (Nat.lt_of_lt_of_le (by have := World.block_lt_of_cell? _ _ hx784_0; first | rwa [add_block] at this | exact this) (IsS105.ge HI0.out))
    replace hx784_0 := pw_cell_below HB.out hx784_0
    replace hx784_0 := (cell_far (p := ⟨g, 2, none⟩) (by first | (rw [add_block]; exact hn784_0) | (show (Addr.add _ _).block ≠ _; rw [add_block]; exact hn784_0) | exact hn784_0) (.int .i64 (wrap64 ((wrap64 (s0_2 * 6364136223846793005)) + 1442695040888963407)))).trans hx784_0
    (try have hy784_0 := fun (n_ : Nat) => (show (((w.drewN n_).setCell ⟨g, 2, none⟩ (.int .i64 (wrap64 ((wrap64 (s0_2 * 6364136223846793005)) + 1442695040888963407))))).cell? _ = some _ from hx784_0))
    clear hn784_0
    replace p784 := eq_true p784
    replace q784 := eq_true q784
    go_enter Try.func88, Try.ntmps88
    go_wp2
    repeat (go_quiet (fail); try go_wp2)
    go_ret
    exact ⟨qb_, hI_IsS105_HI0, hBI_, hK_⟩
  · rw [if_neg c2] at H
    have c2b0 := decide_eq_false c2
    clear c2
    simp only [Option.some.injEq, Prod.mk.injEq] at H
    obtain ⟨rfl, rfl, rfl⟩ := H
    obtain ⟨ASz5_0, cSz5_0, HGz5, hgz5, HSz5_0⟩ := HI0.out
    have hcz5_0 := cellS105_0 HGz5
    have hcz5_1 := cellS105_1 HGz5
    have hcz5_2 := cellS105_2 HGz5
    have hfz5_1 := blk_frozen HGz5 1
    have hfz5_2 := blk_frozen HGz5 2
    clear HGz5 hgz5
    go_enter Try.func88, Try.ntmps88
    go_wp2
    repeat (go_quiet (fail); try go_wp2)
    go_ret
    exact ⟨qb_, hI_IsS105_HI0, hBI_, hK_⟩
end Go.Proofs.Ytbdnellgioimbaa.A
end
section
namespace Go.Proofs.Ytbdnellgioimbaa.A
open Go.RowKit Go.Proofs.YtbdnellgioimbaaW.PrintWords Go.Proofs.YtbdnellgioimbaaW.PrintLast Go.Proofs.YtbdnellgioimbaaW.PrintMore
attribute [local go_sem] max2_int min2_int max_two min_two max_three min_three max_four min_four
set_option linter.unusedVariables false
set_option linter.unusedSimpArgs false
def spec_l01Below.f (s0_0 : List Int) (s0_1 : Int) (s0_2 : Int) (a1 : Int) : Option (Int × Int × Int) := if a1 ≤ 0 then (some (0, s0_1, s0_2)) else (if a1 ≤ 256 then ((spec_l01Byte.f s0_0 s0_1 s0_2).bind fun bt785 => (if a1 = 0 then (none) else (some (Int.tmod bt785.1 a1, bt785.2.1, bt785.2.2)))) else ((spec_l01Byte.f s0_0 s0_1 s0_2).bind fun bt788 => ((spec_l01Byte.f s0_0 bt788.2.1 bt788.2.2).bind fun bt791 => ((spec_l01Byte.f s0_0 bt791.2.1 bt791.2.2).bind fun bt794 => ((spec_l01Byte.f s0_0 bt794.2.1 bt794.2.2).bind fun bt797 => (if a1 = 0 then (none) else (some (Int.tmod (wrap64 ((wrap64 ((wrap64 ((wrap64 (bt788.1 * 16777216)) + (wrap64 (bt791.1 * 65536)))) + (wrap64 (bt794.1 * 256)))) + bt797.1)) a1, bt797.2.1, bt797.2.2))))))))
set_option maxHeartbeats 8000000 in
set_option maxRecDepth 100000 in
theorem spec_l01Below.calls (g : Nat) (s0_0 : List Int) (s0_1 : Int) (s0_2 : Int) (a1 : Int) (r1 : Int) (r2 : Int) (r3 : Int) (w0 w : World) (hI : IsS105 w0 w g s0_0 s0_1 s0_2) (hB : Below w0.heap.size w0 w) (h : spec_l01Below.f s0_0 s0_1 s0_2 a1 = some (r1, r2, r3)) :
    Calls Try.prog 72 #[.pointer (some ⟨g, 0, none⟩), .int .i64 a1] w fun e w' => e = .returned (.int .i64 r1) ∧ IsS105 w0 w' g s0_0 r2 r3 ∧ Below w0.heap.size w0 w' ∧ KeepBut w w' g none := by
  have HI0 := Aside0.mk hI
  have HK := Aside0.mk (KeepBut.refl w g none)
  have HL := Aside0.mk hB.size
  clear hI
  have HW0 := Aside0.mk hB.size
  have HB := Aside0.mk hB
  clear hB
  have H := h
  unfold spec_l01Below.f at H
  clear h
  by_cases c3 : a1 ≤ 0
  · rw [if_pos c3] at H
    have c3b0 := decide_eq_true c3
    clear c3
    simp only [Option.some.injEq, Prod.mk.injEq] at H
    obtain ⟨rfl, rfl, rfl⟩ := H
    go_enter Try.func72, Try.ntmps72
    go_wp2
    go_ret
    exact ⟨qb_, hI_IsS105_HI0, hBI_, hK_⟩
  · rw [if_neg c3] at H
    have c3b0 := decide_eq_false c3
    clear c3
    by_cases c4 : a1 ≤ 256
    · rw [if_pos c4] at H
      have c4b0 := decide_eq_true c4
      clear c4
      obtain ⟨⟨t785, t786, t787⟩, A5, H⟩ := bi_ H
      try dsimp only at H
      by_cases c6 : a1 = 0
      · rw [if_pos c6] at H
        exact absurd H (by simp)
      · rw [if_neg c6] at H
        have c6b0 : (a1 == 0) = false := beq_eq_false_iff_ne.mpr c6
        have c6b1 : (a1 != 0) = true := bne_iff_ne.mpr c6
        simp only [Option.some.injEq, Prod.mk.injEq] at H
        obtain ⟨rfl, rfl, rfl⟩ := H
        go_enter Try.func72, Try.ntmps72
        go_wp2_with (first | ((with_reducible refine gate_callee (f := 88) rfl ?_); refine gL_ (some 14) Try.func88 #[.pointer (some ⟨g, 0, none⟩)] rfl qa_ ?_; (with_reducible refine (spec_l01Byte.calls g s0_0 s0_1 s0_2 t785 t786 t787 w0 _ ?side1 ?side2 A5.out).mono ?_); (case side1 => repeat (first | (with_reducible first | exact HI0.out | apply IsS105.alloc | apply IsS105.drewN | apply IsS105.drew | apply IsS105.set_1 | apply IsS105.set_2) | exact HI0.out)); (case side2 => repeat (first | (with_reducible first | exact HB.out | apply below_alloc | apply pw_below_drewN | apply below_drew1 | refine below_set ?_ (IsS105.ge HI0.out)) | exact HB.out)); rintro e w7 ⟨rfl, hi, hb, hk⟩; refine ⟨_, rfl, ?_⟩; replace HK := Aside0.mk (KeepBut.trans hK_ hk (.inl rfl)); replace HB := Aside0.mk hb; replace HI0 := Aside0.mk hi; clear hb hk hi))
        go_ret
        exact ⟨qb_, hI_IsS105_HI0, hBI_, hK_⟩
    · rw [if_neg c4] at H
      have c4b0 := decide_eq_false c4
      clear c4
      obtain ⟨⟨t788, t789, t790⟩, A8, H⟩ := bi_ H
      try dsimp only at H
      obtain ⟨⟨t791, t792, t793⟩, A9, H⟩ := bi_ H
      try dsimp only at H
      obtain ⟨⟨t794, t795, t796⟩, A10, H⟩ := bi_ H
      try dsimp only at H
      obtain ⟨⟨t797, t798, t799⟩, A11, H⟩ := bi_ H
      try dsimp only at H
      by_cases c12 : a1 = 0
      · rw [if_pos c12] at H
        exact absurd H (by simp)
      · rw [if_neg c12] at H
        have c12b0 : (a1 == 0) = false := beq_eq_false_iff_ne.mpr c12
        have c12b1 : (a1 != 0) = true := bne_iff_ne.mpr c12
        simp only [Option.some.injEq, Prod.mk.injEq] at H
        obtain ⟨rfl, rfl, rfl⟩ := H
        go_enter Try.func72, Try.ntmps72
        go_wp2_with (first | ((with_reducible refine gate_callee (f := 88) rfl ?_); refine gL_ (some 18) Try.func88 #[.pointer (some ⟨g, 0, none⟩)] rfl qa_ ?_; (with_reducible refine (spec_l01Byte.calls g s0_0 s0_1 s0_2 t788 t789 t790 w0 _ ?side1 ?side2 A8.out).mono ?_); (case side1 => repeat (first | (with_reducible first | exact HI0.out | apply IsS105.alloc | apply IsS105.drewN | apply IsS105.drew | apply IsS105.set_1 | apply IsS105.set_2) | exact HI0.out)); (case side2 => repeat (first | (with_reducible first | exact HB.out | apply below_alloc | apply pw_below_drewN | apply below_drew1 | refine below_set ?_ (IsS105.ge HI0.out)) | exact HB.out)); rintro e w13 ⟨rfl, hi, hb, hk⟩; refine ⟨_, rfl, ?_⟩; replace HK := Aside0.mk (KeepBut.trans hK_ hk (.inl rfl)); replace HB := Aside0.mk hb; replace HI0 := Aside0.mk hi; clear hb hk hi) | ((with_reducible refine gate_callee (f := 88) rfl ?_); refine gL_ (some 20) Try.func88 #[.pointer (some ⟨g, 0, none⟩)] rfl qa_ ?_; (with_reducible refine (spec_l01Byte.calls g s0_0 t789 t790 t791 t792 t793 w0 _ ?side1 ?side2 A9.out).mono ?_); (case side1 => repeat (first | (with_reducible first | exact HI0.out | apply IsS105.alloc | apply IsS105.drewN | apply IsS105.drew | apply IsS105.set_1 | apply IsS105.set_2) | exact HI0.out)); (case side2 => repeat (first | (with_reducible first | exact HB.out | apply below_alloc | apply pw_below_drewN | apply below_drew1 | refine below_set ?_ (IsS105.ge HI0.out)) | exact HB.out)); rintro e w14 ⟨rfl, hi, hb, hk⟩; refine ⟨_, rfl, ?_⟩; replace HK := Aside0.mk (KeepBut.trans hK_ hk (.inl rfl)); replace HB := Aside0.mk hb; replace HI0 := Aside0.mk hi; clear hb hk hi) | ((with_reducible refine gate_callee (f := 88) rfl ?_); refine gL_ (some 22) Try.func88 #[.pointer (some ⟨g, 0, none⟩)] rfl qa_ ?_; (with_reducible refine (spec_l01Byte.calls g s0_0 t792 t793 t794 t795 t796 w0 _ ?side1 ?side2 A10.out).mono ?_); (case side1 => repeat (first | (with_reducible first | exact HI0.out | apply IsS105.alloc | apply IsS105.drewN | apply IsS105.drew | apply IsS105.set_1 | apply IsS105.set_2) | exact HI0.out)); (case side2 => repeat (first | (with_reducible first | exact HB.out | apply below_alloc | apply pw_below_drewN | apply below_drew1 | refine below_set ?_ (IsS105.ge HI0.out)) | exact HB.out)); rintro e w15 ⟨rfl, hi, hb, hk⟩; refine ⟨_, rfl, ?_⟩; replace HK := Aside0.mk (KeepBut.trans hK_ hk (.inl rfl)); replace HB := Aside0.mk hb; replace HI0 := Aside0.mk hi; clear hb hk hi) | ((with_reducible refine gate_callee (f := 88) rfl ?_); refine gL_ (some 24) Try.func88 #[.pointer (some ⟨g, 0, none⟩)] rfl qa_ ?_; (with_reducible refine (spec_l01Byte.calls g s0_0 t795 t796 t797 t798 t799 w0 _ ?side1 ?side2 A11.out).mono ?_); (case side1 => repeat (first | (with_reducible first | exact HI0.out | apply IsS105.alloc | apply IsS105.drewN | apply IsS105.drew | apply IsS105.set_1 | apply IsS105.set_2) | exact HI0.out)); (case side2 => repeat (first | (with_reducible first | exact HB.out | apply below_alloc | apply pw_below_drewN | apply below_drew1 | refine below_set ?_ (IsS105.ge HI0.out)) | exact HB.out)); rintro e w16 ⟨rfl, hi, hb, hk⟩; refine ⟨_, rfl, ?_⟩; replace HK := Aside0.mk (KeepBut.trans hK_ hk (.inl rfl)); replace HB := Aside0.mk hb; replace HI0 := Aside0.mk hi; clear hb hk hi))
        go_ret
        exact ⟨qb_, hI_IsS105_HI0, hBI_, hK_⟩
end Go.Proofs.Ytbdnellgioimbaa.A
end
section
namespace Go.Proofs.Ytbdnellgioimbaa.A
open Go.RowKit Go.Proofs.YtbdnellgioimbaaW.PrintWords Go.Proofs.YtbdnellgioimbaaW.PrintLast Go.Proofs.YtbdnellgioimbaaW.PrintMore
attribute [local go_sem] max2_int min2_int max_two min_two max_three min_three max_four min_four
set_option linter.unusedVariables false
set_option linter.unusedSimpArgs false
def spec_l01In.f (a0 : Int) (a1 : Int) (a2 : Int) : Option (Bool) := if a0 ≥ a1 then (some (decide (a0 ≤ a2))) else (some false)
set_option maxHeartbeats 8000000 in
set_option maxRecDepth 100000 in
theorem spec_l01In.calls (a0 : Int) (a1 : Int) (a2 : Int) (r : Bool) (w : World) (h : spec_l01In.f a0 a1 a2 = some r) :
    Calls Try.prog 115 #[.int .i64 a0, .int .i64 a1, .int .i64 a2] w fun e w' => e = .returned (.bool r) ∧ Drawn0 w w' := by
  have H := h
  unfold spec_l01In.f at H
  clear h
  by_cases c4 : a0 ≥ a1
  · rw [if_pos c4] at H
    have c4b0 : decide (a1 ≤ a0) = true := decide_eq_true c4
    clear c4
    obtain rfl := Option.some.inj H
    go_enter Try.func115, Try.ntmps115
    go_wp2
    go_ret
    exact ⟨qc_, by repeat (first | exact Drawn0.refl _ | apply Drawn0.step)⟩
  · rw [if_neg c4] at H
    have c4b0 : decide (a1 ≤ a0) = false := decide_eq_false c4
    clear c4
    obtain rfl := Option.some.inj H
    go_enter Try.func115, Try.ntmps115
    go_wp2
    go_ret
    exact ⟨qc_, by repeat (first | exact Drawn0.refl _ | apply Drawn0.step)⟩
end Go.Proofs.Ytbdnellgioimbaa.A
end
section
namespace Go.Proofs.Ytbdnellgioimbaa.A
open Go.RowKit Go.Proofs.YtbdnellgioimbaaW.PrintWords Go.Proofs.YtbdnellgioimbaaW.PrintLast Go.Proofs.YtbdnellgioimbaaW.PrintMore
attribute [local go_sem] max2_int min2_int max_two min_two max_three min_three max_four min_four
set_option linter.unusedVariables false
set_option linter.unusedSimpArgs false
mutual
def spec_TorusOf.j0 : Nat → Int → Int → Bool → Option (List Int × List Int × Bool)
  | 0, _, _, _ => none
  | k + 1, x0, x1, x21 => if x21 = true then (some (([] : List Int), ([] : List Int), false)) else (spec_TorusOf.l0 k x0 x1 0 ([] : List Int) ([] : List Int))
def spec_TorusOf.l0 : Nat → Int → Int → Int → List Int → List Int → Option (List Int × List Int × Bool)
  | 0, _, _, _, _, _ => none
  | k + 1, x0, x1, x7, x804000, x804001 => if x7 < (wrap64 (x0 * x1)) then (if x0 = 0 then (none) else (if x804000.length < 17592186044416 then (if (wrap64 (x0 * x1)) = 0 then (none) else (if x804001.length < 17592186044416 then (spec_TorusOf.l0 k x0 x1 (wrap64 (x7 + 1)) (x804000 ++ [wrap64 ((wrap64 ((wrap64 (Int.tdiv x7 x0)) * x0)) + (Int.tmod (wrap64 ((Int.tmod x7 x0) + 1)) x0))]) (x804001 ++ [Int.tmod (wrap64 (x7 + x0)) (wrap64 (x0 * x1))])) else (none))) else (none))) else (some (x804000, x804001, true))
end
def spec_TorusOf.f (k : Nat) (a0 : Int) (a1 : Int) : Option (List Int × List Int × Bool) := (spec_l01In.f a0 1 24).bind fun t801 => (if t801 = true then ((spec_l01In.f a1 1 24).bind fun t802 => (if t802 = true then (spec_TorusOf.j0 k a0 a1 (decide ((wrap64 (a0 * a1)) > 24))) else (spec_TorusOf.j0 k a0 a1 true))) else (spec_TorusOf.j0 k a0 a1 true))
theorem spec_TorusOf.mono_l : ∀ k, (∀ y0 y1 y2, LeO (spec_TorusOf.j0 k y0 y1 y2) (spec_TorusOf.j0 (k + 1) y0 y1 y2)) ∧ (∀ y0 y1 y2 y3 y4, LeO (spec_TorusOf.l0 k y0 y1 y2 y3 y4) (spec_TorusOf.l0 (k + 1) y0 y1 y2 y3 y4))
  | 0 => ⟨fun _ _ _ r h => by simp [spec_TorusOf.j0] at h, fun _ _ _ _ _ r h => by simp [spec_TorusOf.l0] at h⟩
  | k + 1 => by
    obtain ⟨ih0, ih1⟩ := spec_TorusOf.mono_l k
    refine ⟨?_, ?_⟩
    · intro y0 y1 y2
      unfold spec_TorusOf.j0
      repeat' first|exact ih0 _ _ _|exact ih1 _ _ _ _ _|exact lo_|refine LeO.ite ?_ ?_|refine LeO.bind ?_ (fun _ => ?_)
    · intro y0 y1 y2 y3 y4
      unfold spec_TorusOf.l0
      repeat' first|exact ih0 _ _ _|exact ih1 _ _ _ _ _|exact lo_|refine LeO.ite ?_ ?_|refine LeO.bind ?_ (fun _ => ?_)
theorem spec_TorusOf.mono : ∀ a0 a1 k, LeO (spec_TorusOf.f k a0 a1) (spec_TorusOf.f (k + 1) a0 a1) := by
  intro a0 a1 k
  obtain ⟨ih0, ih1⟩ := spec_TorusOf.mono_l k
  unfold spec_TorusOf.f
  repeat' first|exact ih0 _ _ _|exact ih1 _ _ _ _ _|exact lo_|refine LeO.ite ?_ ?_|refine LeO.bind ?_ (fun _ => ?_)
def spec_TorusOf.T7 : Bool × List (List Nat × List Nat) := (true, [([], []), ([0], [0]), ([], []), ([], []), ([2, 3], [2, 3]), ([], []), ([4, 5], [4, 5]), ([], []), ([], []), ([7, 8], [7, 8]), ([9], [9]), ([], []), ([10, 11], [10, 11]), ([6, 12], [6, 12]), ([13], [13]), ([1, 14], [1, 14]), ([0, 1, 2, 3, 4, 5, 6, 7, 8, 9, 10, 11, 12, 13, 14, 15], []), ([16, 15, 15, 0, 1, 2, 3, 4, 5, 6, 7, 8, 9, 10, 11, 12, 13, 14, 15], [15, 16])])
def spec_TorusOf.B7 : List Nat := [0, 1, 0, 0, 12, 0, 60, 0, 0, 384, 896, 0, 3968, 8188, 16380, 32767, 65535, 131071]
theorem spec_TorusOf.tab7 : rtab .any (opsOf Try.f73 7) = spec_TorusOf.T7 := by kernel_rfl
theorem spec_TorusOf.bits7 : waitsOk spec_TorusOf.T7.2 spec_TorusOf.B7 = true := by kernel_rfl
def spec_TorusOf.T8 : Bool × List (List Nat × List Nat) := (true, [([], []), ([0], [0]), ([], []), ([], []), ([2, 3], [2, 3]), ([], []), ([], []), ([5, 6], [5, 6]), ([4, 7], [4, 7]), ([8], [8]), ([1, 9], [1, 9]), ([0, 1, 2, 3, 4, 5, 6, 7, 8, 9, 10], []), ([11, 10, 10, 0, 1, 2, 3, 4, 5, 6, 7, 8, 9, 10], [10, 11])])
def spec_TorusOf.B8 : List Nat := [0, 1, 0, 0, 12, 0, 0, 96, 252, 508, 1023, 2047, 4095]
theorem spec_TorusOf.tab8 : rtab .any (opsOf Try.f73 8) = spec_TorusOf.T8 := by kernel_rfl
theorem spec_TorusOf.bits8 : waitsOk spec_TorusOf.T8.2 spec_TorusOf.B8 = true := by kernel_rfl
set_option maxHeartbeats 8000000 in
set_option maxRecDepth 100000 in
theorem spec_TorusOf.calls (k : Nat) (a0 : Int) (a1 : Int) (r1 : List Int) (r2 : List Int) (r3 : Bool) (w : World) (h : spec_TorusOf.f k a0 a1 = some (r1, r2, r3)) :
    Calls Try.prog 73 #[.int .i64 a0, .int .i64 a1] w fun e w' => ∃ v0_ v1_ : Value, e = .returned (.tuple #[.agg #[v0_, v1_], .bool r3]) ∧ Kd.R (Kd.int .i64) 3 w' w.heap.size (fun k_ => some k_ ≠ (v1_ : Value).ownBlock) v0_ r1 ∧ Kd.R (Kd.int .i64) 3 w' w.heap.size (fun k_ => some k_ ≠ (v0_ : Value).ownBlock) v1_ r2 ∧ Below w.heap.size w w' := by
  have hu27 := Try.underlying27
  have HB := Aside0.mk (Below.refl w.heap.size w)
  have H := h
  unfold spec_TorusOf.f at H
  clear h
  have HC3 := Aside0.mk H
  clear H
  go_enter Try.func73, Try.ntmps73
  go_upto_region 1 with (first | ((with_reducible refine gate_dst (N := 4) rfl ?_); refine bx_ 4 #[.slice none 0 0, .slice none 0 0] 27 ?_; intro gb800 hg w4 hbox hb; have BK800 := Aside0.mk hbox; have GW800 := gw_ w hg; have GE800 := GW800; replace HB := b1_ hb; clear hb hbox hg))
  (try simp only [Act.put, List.setIfInBounds_toArray, List.set_cons_zero, List.set_cons_succ])
  go_cut [21] (fun v21 wc => ∃ (kq : Nat) (x21_2 : Bool), v21 = .bool x21_2 ∧ Aside0 (spec_TorusOf.j0 kq a0 a1 x21_2 = some (r1, r2, r3)) ∧ Aside0 (kq ≤ k) ∧ Aside0 (wc.heap[gb800]? = some (.cells #[(.slice none 0 0), (.slice none 0 0)] 27 (0, 0))) ∧ Aside0 (Below w.heap.size w wc))
  case first =>
    have H := HC3.out
    clear HC3
    obtain ⟨t801, A5, H⟩ := bi_ H
    by_cases c6 : t801 = true
    · subst c6
      rw [if_pos rfl] at H
      obtain ⟨t802, A7, H⟩ := bi_ H
      by_cases c8 : t802 = true
      · subst c8
        rw [if_pos rfl] at H
        have H' := Aside0.mk H
        clear H
        go_wp2_with (first | ((with_reducible refine gate_callee (f := 115) rfl ?_); refine gL_ (some 9) Try.func115 #[.int .i64 a0, .int .i64 1, .int .i64 24] rfl qa_ ?_; (with_reducible refine (spec_l01In.calls a0 1 24 true _ A5.out).mono ?_); rintro e w' ⟨rfl, ⟨nd, rfl⟩⟩; refine ⟨_, rfl, ?_⟩) | (go_at_call 115; (with_reducible refine (spec_l01In.calls a1 1 24 true _ A7.out).mono ?_); rintro e w' ⟨rfl, ⟨nd, rfl⟩⟩))
        go_meet
        case rel => exact ⟨_, (decide ((wrap64 (a0 * a1)) > 24)), qc_, H', ⟨qd_⟩, ⟨(kk_ BK800)⟩, ⟨hB_⟩⟩
      · replace c8 := Bool.eq_false_iff.mpr c8
        subst c8
        have H1 : (spec_TorusOf.j0 k a0 a1 true) = some (r1, r2, r3) := by rw [if_neg (show ¬ (false = true) by decide)] at H; exact H
        clear H
        have H := H1
        clear H1
        have H' := Aside0.mk H
        clear H
        go_wp2_with (first | ((with_reducible refine gate_callee (f := 115) rfl ?_); refine gL_ (some 9) Try.func115 #[.int .i64 a0, .int .i64 1, .int .i64 24] rfl qa_ ?_; (with_reducible refine (spec_l01In.calls a0 1 24 true _ A5.out).mono ?_); rintro e w' ⟨rfl, ⟨nd, rfl⟩⟩; refine ⟨_, rfl, ?_⟩) | (go_at_call 115; (with_reducible refine (spec_l01In.calls a1 1 24 false _ A7.out).mono ?_); rintro e w' ⟨rfl, ⟨nd, rfl⟩⟩))
        go_meet
        case rel => exact ⟨_, (true), qc_, H', ⟨qd_⟩, ⟨(kk_ BK800)⟩, ⟨hB_⟩⟩
    · replace c6 := Bool.eq_false_iff.mpr c6
      subst c6
      have H1 : (spec_TorusOf.j0 k a0 a1 true) = some (r1, r2, r3) := by rw [if_neg (show ¬ (false = true) by decide)] at H; exact H
      clear H
      have H := H1
      clear H1
      have H' := Aside0.mk H
      clear H
      go_wp2_with (first | ((with_reducible refine gate_callee (f := 115) rfl ?_); refine gL_ (some 9) Try.func115 #[.int .i64 a0, .int .i64 1, .int .i64 24] rfl qa_ ?_; (with_reducible refine (spec_l01In.calls a0 1 24 false _ A5.out).mono ?_); rintro e w' ⟨rfl, ⟨nd, rfl⟩⟩; refine ⟨_, rfl, ?_⟩))
      go_meet
      case rel => exact ⟨_, (true), qc_, H', ⟨qd_⟩, ⟨(kk_ BK800)⟩, ⟨hB_⟩⟩
  case rest =>
    clear HC3
    obtain ⟨kq, x21_2, rfl, HA, HJ2, BK800, HB⟩ := hcut
    cases kq with
    | zero => exact absurd HA.out (by simp [spec_TorusOf.j0])
    | succ kj2 =>
      have H := HA.out
      clear HA
      simp only [spec_TorusOf.j0] at H
      by_cases c9 : x21_2 = true
      · subst c9
        rw [if_pos rfl] at H
        simp only [Option.some.injEq, Prod.mk.injEq] at H
        obtain ⟨rfl, rfl, rfl⟩ := H
        obtain ⟨hcz10_0, hcz10_1, hfz10_0, hfz10_1⟩ := c2_ BK800
        go_wp2
        refine bodyPost_ret (results_ct rfl _ _ gb800 27 #[.slice none 0 0, .slice none 0 0] (0, 0) _ rfl qp_ Try.underlying27 rfl (by kernel_rfl)) rfl ?_
        exact ⟨_, _, qb_, by first | exact Kd.R_nil _ _ _ _ _ | exact Kd.N_nil _ _ _ _ _ | exact Kd.V_nil _ _ _ _ _ | exact Kd.Q_nil _ _ _ _ _ | exact Kd.S_nil _ _ _ _ _, by first | exact Kd.R_nil _ _ _ _ _ | exact Kd.N_nil _ _ _ _ _ | exact Kd.V_nil _ _ _ _ _ | exact Kd.Q_nil _ _ _ _ _ | exact Kd.S_nil _ _ _ _ _, hB_⟩
      · replace c9 := Bool.eq_false_iff.mpr c9
        subst c9
        have H1 : (spec_TorusOf.l0 kj2 a0 a1 0 ([] : List Int) ([] : List Int)) = some (r1, r2, r3) := by rw [if_neg (show ¬ (false = true) by decide)] at H; exact H
        clear H
        have H := H1
        clear H1
        have H' := Aside0.mk H
        clear H
        go_wp2_with (first | ((with_reducible refine gate_dst (N := 6) rfl ?_); refine bx_ 6 #[.slice none 0 0, .slice none 0 0] 27 ?_; intro gb803 hg w11 hbox hb; have BK803 := Aside0.mk hbox; have GW803 := gw_ w hg; have GE803 := GW803; replace HB := b1_ hb; have NB800_803 := gN_ BK800 hg; have NB803_800 := gP_ BK800 hg; replace BK800 := bb_ BK800 hb; clear hb hbox hg; have hnb12 := NB803_800.out; have hnc12 := NB800_803.out; obtain ⟨hcz13_0, hcz13_1, hfz13_0, hfz13_1⟩ := c2_ BK803))
        go_loopg [7] kj2 (fun kq v7 w' => ∃ (x7_2 : Int) (x804000_2 : List Int) (x804001_2 : List Int) (u804000 : Value) (u804001 : Value), v7 = .int .i64 x7_2 ∧ Aside0 (spec_TorusOf.l0 kq a0 a1 x7_2 x804000_2 x804001_2 = some (r1, r2, r3)) ∧ Aside0 (kq ≤ kj2) ∧ Aside0 (Kd.R (Kd.int .i64) 3 w' w.heap.size (fun k_ => some k_ ≠ (u804001 : Value).ownBlock) u804000 x804000_2) ∧ Aside0 (Kd.R (Kd.int .i64) 3 w' w.heap.size (fun k_ => some k_ ≠ (u804000 : Value).ownBlock) u804001 x804001_2) ∧ Aside0 (w'.heap[gb800]? = some (.cells #[(.slice none 0 0), (.slice none 0 0)] 27 (0, 0))) ∧ Aside0 (w'.heap[gb803]? = some (.cells #[u804000, u804001] 27 (0, 0))) ∧ Aside0 (Below w.heap.size w w'))
        case atStart => exact ⟨(0), (([] : List Int)), (([] : List Int)), (.slice none 0 0), (.slice none 0 0), qc_, H', ⟨Nat.le_refl _⟩, ⟨by first | exact Kd.R_nil _ _ _ _ _ | exact Kd.N_nil _ _ _ _ _ | exact Kd.V_nil _ _ _ _ _ | exact Kd.Q_nil _ _ _ _ _ | exact Kd.S_nil _ _ _ _ _⟩, ⟨by first | exact Kd.R_nil _ _ _ _ _ | exact Kd.N_nil _ _ _ _ _ | exact Kd.V_nil _ _ _ _ _ | exact Kd.Q_nil _ _ _ _ _ | exact Kd.S_nil _ _ _ _ _⟩, ⟨by (with_reducible repeat (first | refine blk_drewN ?_ _ | refine blk_drew ?_ | refine blk_alloc ?_ _)); refine blk_far ?_ NB800_803.out _; (with_reducible repeat (first | refine blk_drewN ?_ _ | refine blk_drew ?_ | refine blk_alloc ?_ _)); refine blk_far ?_ NB800_803.out _; (with_reducible repeat (first | refine blk_drewN ?_ _ | refine blk_drew ?_ | refine blk_alloc ?_ _)); exact BK800.out⟩, ⟨qp_⟩, ⟨hB_⟩⟩
        case round =>
          clear H'
          obtain ⟨x7_2, x804000_2, x804001_2, u804000, u804001, rfl, HA, HK2, HO_804000, HO_804001, BK800, BK803, HB⟩ := hrel
          cases gk with
          | zero => exact absurd HA.out (by simp [spec_TorusOf.l0])
          | succ k2 =>
            have H := HA.out
            clear HA
            simp only [spec_TorusOf.l0] at H
            by_cases c14 : x7_2 < (wrap64 (a0 * a1))
            · rw [if_pos c14] at H
              have c14b0 := decide_eq_true c14
              clear c14
              by_cases c15 : a0 = 0
              · rw [if_pos c15] at H
                exact absurd H (by simp)
              · rw [if_neg c15] at H
                have c15b0 : (a0 == 0) = false := beq_eq_false_iff_ne.mpr c15
                have c15b1 : (a0 != 0) = true := bne_iff_ne.mpr c15
                have c16 := cp_ H
                replace H := ca_ H
                have LMc16 := Aside0.mk c16
                clear c16
                obtain ⟨y804, hy804⟩ : ∃ y_ : List Int, y_ = (x804000_2 ++ [wrap64 ((wrap64 ((wrap64 (Int.tdiv x7_2 a0)) * a0)) + (Int.tmod (wrap64 ((Int.tmod x7_2 a0) + 1)) a0))]) := ⟨_, rfl⟩
                replace H : (if (wrap64 (a0 * a1)) = 0 then (none) else (if x804001_2.length < 17592186044416 then (spec_TorusOf.l0 k2 a0 a1 (wrap64 (x7_2 + 1)) y804 (x804001_2 ++ [Int.tmod (wrap64 (x7_2 + a0)) (wrap64 (a0 * a1))])) else (none))) = some (r1, r2, r3) := by first | (rw [hy804]; exact H) | exact H
                have Ny804 := Aside0.mk hy804
                clear hy804
                by_cases c17 : (wrap64 (a0 * a1)) = 0
                · rw [if_pos c17] at H
                  exact absurd H (by simp)
                · rw [if_neg c17] at H
                  have c17b0 : ((wrap64 (a0 * a1)) == 0) = false := beq_eq_false_iff_ne.mpr c17
                  have c17b1 : ((wrap64 (a0 * a1)) != 0) = true := bne_iff_ne.mpr c17
                  have c18 := cp_ H
                  replace H := ca_ H
                  have LMc18 := Aside0.mk c18
                  clear c18
                  obtain ⟨y807, hy807⟩ : ∃ y_ : List Int, y_ = (x804001_2 ++ [Int.tmod (wrap64 (x7_2 + a0)) (wrap64 (a0 * a1))]) := ⟨_, rfl⟩
                  replace H : (spec_TorusOf.l0 k2 a0 a1 (wrap64 (x7_2 + 1)) y804 y807) = some (r1, r2, r3) := by first | (rw [hy807]; exact H) | exact H
                  have Ny807 := Aside0.mk hy807
                  clear hy807
                  have H' := Aside0.mk H
                  clear H
                  try go_wp2
                  replace HO_804000 := Aside0.mk (Kd.R_drew HO_804000.out)
                  replace HO_804001 := Aside0.mk (Kd.R_drew HO_804001.out)
                  replace BK800 := Aside0.mk (blk_drew BK800.out)
                  replace BK803 := Aside0.mk (blk_drew BK803.out)
                  replace HB := Aside0.mk (below_drew1 HB.out)
                  refine start_ (n := 18) (S := fun w' => w'.cell? ⟨gb803, 0, none⟩ = some (u804000) ∧ w'.cell? ⟨gb803, 1, none⟩ = some (u804001)) (ds := [17]) (bl_ 18 0) (by kernel_rfl) rfl (by kernel_rfl) ⟨cz0_ BK803, cz1_ BK803⟩ (fun hHeld => ?_); refine with_tabW spec_TorusOf.tab7 spec_TorusOf.bits7 (fun HT_ HW_ => ?_)
                  generalize wr.drew = w19 at HO_804000 HO_804001 BK800 BK803 HB hHeld ⊢
                  refine pu_ 0 (some 31) (bl_ 18 1) HT_ ?_
                  refine pu_ 2 (some 33) (bl_ 18 5) HT_ ?_
                  refine pu_ 3 (some 34) (bl_ 18 13) HT_ ?_
                  refine pu_ 4 (some 35) (bl_ 18 29) HT_ ?_
                  refine pu_ 5 (some 36) (bl_ 18 61) HT_ ?_
                  refine pu_ 6 (some 37) (bl_ 18 125) HT_ ?_
                  refine pu_ 7 (some 38) (bl_ 18 253) HT_ ?_
                  refine pu_ 8 (some 39) (bl_ 18 509) HT_ ?_
                  refine pu_ 9 (some 40) (bl_ 18 1021) HT_ ?_
                  refine pu_ 10 (some 41) (bl_ 18 2045) HT_ ?_
                  refine pu_ 11 (some 42) (bl_ 18 4093) HT_ ?_
                  refine pu_ 12 (some 43) (bl_ 18 8189) HT_ ?_
                  refine pu_ 13 (some 44) (bl_ 18 16381) HT_ ?_
                  refine ta_ 1 (some 32) (bl_ 18 16383) HT_ HW_ hHeld ?_
                  refine on_ 14 (some 45) (bl_ 18 32767) HT_ (fun K hK => ?_)
                  refine value_ (w1 := ?_) (v := ?_) (by rfl) rfl ?_ ?_
                  rotate_left 2
                  · go_simp
                    constructor
                    · rfl
                    · rfl
                  refine hK.out _ _ ⟨(blk_cell (blk_alloc BK803.out _) 0).trans rfl, (blk_cell (blk_alloc BK803.out _) 1).trans rfl⟩ (fun hHeld => ?_)
                  clear hK K
                  refine no_ (some 45) ?_
                  refine on_ 15 (some 46) (bl_ 18 65535) HT_ (fun K hK => ?_)
                  refine Kd.R_append_step (Kd.int .i64) (w0 := w) w.heap.size (by rfl) (.tmp 32) (.tmp 45) 22 3 (.int .i64 0) 8 rfl Try.underlying22 info3 rfl (by decide) (by omega) u804000 x804000_2 (wrap64 ((wrap64 ((wrap64 (Int.tdiv x7_2 a0)) * a0)) + (Int.tmod (wrap64 ((Int.tmod x7_2 a0) + 1)) a0))) [.int .i64 (wrap64 ((wrap64 ((wrap64 (Int.tdiv x7_2 a0)) * a0)) + (Int.tmod (wrap64 ((Int.tmod x7_2 a0) + 1)) a0)))] (fun k_ => some k_ ≠ (u804001 : Value).ownBlock) (fun _ => False) rfl rfl ?aP (fun _ hk => hk.elim) ?aF ?aO ?aB ?aS ?aL ?_
                  (case aP => exact rfl)
                  (case aB => exact hB_)
                  (case aF => exact (fun k_ hk => Kd.fresh' (Kd.R_lt (rr_ HO_804001)) k_ hk))
                  (case aO => exact (rr_ HO_804000))
                  (case aS => exact (below_size hB_))
                  (case aL => have := LMc16.out; omega)
                  intro v805 w20 ho hb hg hat
                  rw [← Ny804.out] at ho
                  replace HO_804001 := Aside0.mk (Kd.R_after (ok := (fun _ => True)) (rw_ (Kd.R_mono HO_804001.out (fun _ hk => ⟨trivial, hk⟩))) hg hat)
                  replace BK800 := Aside0.mk (blk_grown (kk_ BK800) hg (Kd.R_ne HO_804000.out BK800.out (by decide)))
                  replace BK803 := Aside0.mk (blk_grown (kk_ BK803) hg (Kd.R_ne HO_804000.out BK803.out (by decide)))
                  replace HB := Aside0.mk hb
                  have HO806 := Aside0.mk ho
                  clear HO_804000
                  clear ho hb hg hat
                  obtain ⟨Ao21, co21, eo21⟩ := Kd.R_slice HO806.out
                  (first | subst eo21 | (injection eo21 with f1_ f2_ f3_; have f4_ := f1_.symm; have f5_ := f3_.symm; clear f1_ f2_ f3_; subst f4_; subst f5_))
                  refine hK.out _ _ ⟨cz0_ BK803, cz1_ BK803⟩ (fun hHeld => ?_)
                  clear hK K
                  refine no_ (some 46) ?_
                  refine pu_ 16 (some 47) (bl_ 18 131071) HT_ ?_
                  refine last_ (i := 17) (N := none) (bl_ 18 262143) rfl rfl (one_of HT_.out (by kernel_rfl)) (by decide) (fun K hK => ?_)
                  have hs22 : w20.cell? ⟨gb803, 0, none⟩ = some (u804000) := cz0_ BK803
                  have hfs22 := blk_frozen BK803.out 0
                  have hns22_0 := NB800_803.out
                  have hms22_0 := NB803_800.out
                  refine skip_ (w1 := ?_) (by rfl) rfl ?_ ?_
                  rotate_left
                  · go_simp
                    rfl
                  refine hK.out _ _ ?_
                  clear hK K
                  refine done_ (done_of HT_.out (by kernel_rfl)) ?_
                  try go_wp2
                  have n0_ : Aside0 (Kd.R (Kd.int .i64) 3 (w20.setCell ⟨gb803, 0, none⟩ (.slice Ao21 y804.length co21)) w.heap.size (fun k_ => some k_ ≠ (.slice Ao21 y804.length co21 : Value).ownBlock) u804001 x804001_2) := ⟨(rw_ (Kd.R_mono (Kd.R_far (p := ⟨gb803, 0, none⟩) (Kd.R_types HO_804001.out BK803.out (by decide)) (fun _ hk => hk.2) (.slice Ao21 y804.length co21)) (fun _ hk => hk.1.2)))⟩
                  have n1_ : Aside0 (Kd.R (Kd.int .i64) 3 (w20.setCell ⟨gb803, 0, none⟩ (.slice Ao21 y804.length co21)) w.heap.size (fun k_ => some k_ ≠ (u804001 : Value).ownBlock) (.slice Ao21 y804.length co21) y804) := ⟨(rw_ (Kd.R_mono (Kd.R_far (p := ⟨gb803, 0, none⟩) (Kd.R_types HO806.out BK803.out (by decide)) (fun _ hk => hk.2) (.slice Ao21 y804.length co21)) (fun _ hk => hk.1)))⟩
                  have n2_ : Aside0 ((w20.setCell ⟨gb803, 0, none⟩ (.slice Ao21 y804.length co21)).heap[gb800]? = some (.cells #[.slice none 0 0, .slice none 0 0] 27 (0, 0))) := ⟨by (with_reducible repeat (first | refine blk_drewN ?_ _ | refine blk_drew ?_ | refine blk_alloc ?_ _)); refine blk_far ?_ NB800_803.out _; (with_reducible repeat (first | refine blk_drewN ?_ _ | refine blk_drew ?_ | refine blk_alloc ?_ _)); exact BK800.out⟩
                  have n3_ : Aside0 ((w20.setCell ⟨gb803, 0, none⟩ (.slice Ao21 y804.length co21)).heap[gb803]? = some (.cells #[.slice Ao21 y804.length co21, u804001] 27 (0, 0))) := ⟨by (with_reducible repeat (first | refine blk_drewN ?_ _ | refine blk_drew ?_ | refine blk_alloc ?_ _)); refine blk_put (cs := #[u804000, u804001]) ?_ 0 _ rfl; (with_reducible repeat (first | refine blk_drewN ?_ _ | refine blk_drew ?_ | refine blk_alloc ?_ _)); exact BK803.out⟩
                  have n4_ : Aside0 (Below w.heap.size w (w20.setCell ⟨gb803, 0, none⟩ (.slice Ao21 y804.length co21))) := ⟨hB_⟩
                  skip
                  generalize (w20.setCell ⟨gb803, 0, none⟩ (.slice Ao21 y804.length co21)) = w23 at n0_ n1_ n2_ n3_ n4_ ⊢
                  have HO_804001 := n0_
                  have HO806 := n1_
                  have BK800 := n2_
                  have BK803 := n3_
                  have HB := n4_
                  clear n0_ n1_ n2_ n3_ n4_
                  replace HO_804001 := Aside0.mk (Kd.R_drew HO_804001.out)
                  replace HO806 := Aside0.mk (Kd.R_drew HO806.out)
                  replace BK800 := Aside0.mk (blk_drew BK800.out)
                  replace BK803 := Aside0.mk (blk_drew BK803.out)
                  replace HB := Aside0.mk (below_drew1 HB.out)
                  refine start_ (n := 13) (S := fun w' => w'.cell? ⟨gb803, 0, none⟩ = some (.slice Ao21 y804.length co21) ∧ w'.cell? ⟨gb803, 1, none⟩ = some (u804001)) (ds := [12]) (bl_ 13 0) (by kernel_rfl) rfl (by kernel_rfl) ⟨cz0_ BK803, cz1_ BK803⟩ (fun hHeld => ?_); refine with_tabW spec_TorusOf.tab8 spec_TorusOf.bits8 (fun HT_ HW_ => ?_)
                  generalize w23.drew = w24 at HO_804001 HO806 BK800 BK803 HB hHeld ⊢
                  refine pu_ 0 (some 48) (bl_ 13 1) HT_ ?_
                  refine pu_ 2 (some 50) (bl_ 13 5) HT_ ?_
                  refine pu_ 3 (some 51) (bl_ 13 13) HT_ ?_
                  refine pu_ 4 (some 52) (bl_ 13 29) HT_ ?_
                  refine pu_ 5 (some 53) (bl_ 13 61) HT_ ?_
                  refine pu_ 6 (some 54) (bl_ 13 125) HT_ ?_
                  refine pu_ 7 (some 55) (bl_ 13 253) HT_ ?_
                  refine pu_ 8 (some 56) (bl_ 13 509) HT_ ?_
                  refine ta_ 1 (some 49) (bl_ 13 511) HT_ HW_ hHeld ?_
                  refine on_ 9 (some 57) (bl_ 13 1023) HT_ (fun K hK => ?_)
                  refine value_ (w1 := ?_) (v := ?_) (by rfl) rfl ?_ ?_
                  rotate_left 2
                  · go_simp
                    constructor
                    · rfl
                    · rfl
                  refine hK.out _ _ ⟨(blk_cell (blk_alloc BK803.out _) 0).trans rfl, (blk_cell (blk_alloc BK803.out _) 1).trans rfl⟩ (fun hHeld => ?_)
                  clear hK K
                  refine no_ (some 57) ?_
                  refine on_ 10 (some 58) (bl_ 13 2047) HT_ (fun K hK => ?_)
                  refine Kd.R_append_step (Kd.int .i64) (w0 := w) w.heap.size (by rfl) (.tmp 49) (.tmp 57) 22 3 (.int .i64 0) 8 rfl Try.underlying22 info3 rfl (by decide) (by omega) u804001 x804001_2 (Int.tmod (wrap64 (x7_2 + a0)) (wrap64 (a0 * a1))) [.int .i64 (Int.tmod (wrap64 (x7_2 + a0)) (wrap64 (a0 * a1)))] (fun k_ => some k_ ≠ (.slice Ao21 y804.length co21 : Value).ownBlock) (fun _ => False) rfl rfl ?aP (fun _ hk => hk.elim) ?aF ?aO ?aB ?aS ?aL ?_
                  (case aP => exact rfl)
                  (case aB => exact hB_)
                  (case aF => exact (fun k_ hk => Kd.fresh' (Kd.R_lt (rr_ HO806)) k_ hk))
                  (case aO => exact (rr_ HO_804001))
                  (case aS => exact (below_size hB_))
                  (case aL => have := LMc18.out; omega)
                  intro v808 w25 ho hb hg hat
                  rw [← Ny807.out] at ho
                  replace BK800 := Aside0.mk (blk_grown (kk_ BK800) hg (Kd.R_ne HO_804001.out BK800.out (by decide)))
                  replace BK803 := Aside0.mk (blk_grown (kk_ BK803) hg (Kd.R_ne HO_804001.out BK803.out (by decide)))
                  replace HO806 := Aside0.mk (Kd.R_after (ok := (fun _ => True)) (rw_ (Kd.R_mono HO806.out (fun _ hk => ⟨trivial, hk⟩))) hg hat)
                  replace HB := Aside0.mk hb
                  have HO809 := Aside0.mk ho
                  clear HO_804001
                  clear ho hb hg hat
                  obtain ⟨Ao26, co26, eo26⟩ := Kd.R_slice HO809.out
                  (first | subst eo26 | (injection eo26 with f1_ f2_ f3_; have f4_ := f1_.symm; have f5_ := f3_.symm; clear f1_ f2_ f3_; subst f4_; subst f5_))
                  refine hK.out _ _ ⟨cz0_ BK803, cz1_ BK803⟩ (fun hHeld => ?_)
                  clear hK K
                  refine no_ (some 58) ?_
                  refine pu_ 11 (some 59) (bl_ 13 4095) HT_ ?_
                  refine last_ (i := 12) (N := none) (bl_ 13 8191) rfl rfl (one_of HT_.out (by kernel_rfl)) (by decide) (fun K hK => ?_)
                  have hs27 : w25.cell? ⟨gb803, 1, none⟩ = some (u804001) := cz1_ BK803
                  have hfs27 := blk_frozen BK803.out 1
                  have hns27_0 := NB800_803.out
                  have hms27_0 := NB803_800.out
                  refine skip_ (w1 := ?_) (by rfl) rfl ?_ ?_
                  rotate_left
                  · go_simp
                    rfl
                  refine hK.out _ _ ?_
                  clear hK K
                  refine done_ (done_of HT_.out (by kernel_rfl)) ?_
                  try go_wp2
                  go_roundg k2
                  case measure => have := HJ2.out; have := HK2.out; omega
                  case rel => exact ⟨(wrap64 (x7_2 + 1)), (y804), (y807), (.slice Ao21 y804.length co21), (.slice Ao26 y807.length co26), qc_, H', ⟨by have := HJ2.out; have := HK2.out; omega⟩, ⟨(rw_ (Kd.R_mono (Kd.R_far (p := ⟨gb803, 1, none⟩) (Kd.R_types HO806.out BK803.out (by decide)) (fun _ hk => hk.2) (.slice Ao26 y807.length co26)) (fun _ hk => hk.1.2)))⟩, ⟨(rw_ (Kd.R_mono (Kd.R_far (p := ⟨gb803, 1, none⟩) (Kd.R_types HO809.out BK803.out (by decide)) (fun _ hk => hk.2) (.slice Ao26 y807.length co26)) (fun _ hk => hk.1)))⟩, ⟨by (with_reducible repeat (first | refine blk_drewN ?_ _ | refine blk_drew ?_ | refine blk_alloc ?_ _)); refine blk_far ?_ NB800_803.out _; (with_reducible repeat (first | refine blk_drewN ?_ _ | refine blk_drew ?_ | refine blk_alloc ?_ _)); exact BK800.out⟩, ⟨by (with_reducible repeat (first | refine blk_drewN ?_ _ | refine blk_drew ?_ | refine blk_alloc ?_ _)); refine blk_put (cs := #[.slice Ao21 y804.length co21, u804001]) ?_ 1 _ rfl; (with_reducible repeat (first | refine blk_drewN ?_ _ | refine blk_drew ?_ | refine blk_alloc ?_ _)); exact BK803.out⟩, ⟨hB_⟩⟩
            · rw [if_neg c14] at H
              have c14b0 := decide_eq_false c14
              clear c14
              simp only [Option.some.injEq, Prod.mk.injEq] at H
              obtain ⟨rfl, rfl, rfl⟩ := H
              have hnb28 := NB803_800.out
              have hnc28 := NB800_803.out
              obtain ⟨hcz29_0, hcz29_1, hfz29_0, hfz29_1⟩ := c2_ BK803
              obtain ⟨Ao30, co30, eo30⟩ := Kd.R_slice HO_804000.out
              subst eo30
              obtain ⟨hcz31_0, hcz31_1, hfz31_0, hfz31_1⟩ := c2_ BK800
              obtain ⟨Ao32, co32, eo32⟩ := Kd.R_slice HO_804001.out
              subst eo32
              go_wp2
              refine bodyPost_ret (results_ct rfl _ _ gb800 27 #[.slice Ao30 x804000_2.length co30, .slice Ao32 x804001_2.length co32] (0, 0) _ rfl qp_ Try.underlying27 rfl (by kernel_rfl)) rfl ?_
              exact ⟨_, _, qb_, (rw_ (fa_ HO_804000 BK800)), (rw_ (fa_ HO_804001 BK800)), hB_⟩
end Go.Proofs.Ytbdnellgioimbaa.A
end
section
namespace Go.Proofs.Ytbdnellgioimbaa.A
open Go.RowKit Go.Proofs.YtbdnellgioimbaaW.PrintWords Go.Proofs.YtbdnellgioimbaaW.PrintLast Go.Proofs.YtbdnellgioimbaaW.PrintMore
attribute [local go_sem] max2_int min2_int max_two min_two max_three min_three max_four min_four
set_option linter.unusedVariables false
set_option linter.unusedSimpArgs false
def spec_l02Inverse.l0 : Nat → List Int → List Int → Int → Int → Option (List Int)
  | 0, _, _, _, _ => none
  | k + 1, x3, x9, x10, x11 => if x11 < x10 then (if 0 ≤ x11 then (if x11 < (x9.length : Int) then (if 0 ≤ (rd x9 x11) then (if (rd x9 x11) < (x3.length : Int) then (spec_l02Inverse.l0 k (x3.set ((rd x9 x11) : Int).toNat x11) x9 x10 (wrap64 (x11 + 1))) else (none)) else (none)) else (none)) else (none)) else (some x3)
def spec_l02Inverse.f (k : Nat) (l0 : List Int) : Option (List Int) := if 0 ≤ (l0.length : Int) then (if ((l0.length : Int) : Int).toNat ≤ 35184372088832 then (spec_l02Inverse.l0 k (List.replicate ((l0.length : Int) : Int).toNat 0) l0 (l0.length : Int) 0) else (none)) else (none)
theorem spec_l02Inverse.mono_l : ∀ k, (∀ y0 y1 y2 y3, LeO (spec_l02Inverse.l0 k y0 y1 y2 y3) (spec_l02Inverse.l0 (k + 1) y0 y1 y2 y3))
  | 0 => fun _ _ _ _ r h => by simp [spec_l02Inverse.l0] at h
  | k + 1 => by
    have ih0 := spec_l02Inverse.mono_l k
    · intro y0 y1 y2 y3
      unfold spec_l02Inverse.l0
      repeat' first|exact ih0 _ _ _ _|exact lo_|refine LeO.ite ?_ ?_|refine LeO.bind ?_ (fun _ => ?_)
theorem spec_l02Inverse.mono : ∀ a0 k, LeO (spec_l02Inverse.f k a0) (spec_l02Inverse.f (k + 1) a0) := by
  intro a0 k
  have ih0 := spec_l02Inverse.mono_l k
  unfold spec_l02Inverse.f
  repeat' first|exact ih0 _ _ _ _|exact lo_|refine LeO.ite ?_ ?_|refine LeO.bind ?_ (fun _ => ?_)
set_option maxHeartbeats 8000000 in
set_option maxRecDepth 100000 in
theorem spec_l02Inverse.calls (k : Nat) (A0 : Option Addr) (c0 : Nat) (l0 : List Int) (r : List Int) (w : World) (hr0 : Kd.C (Kd.int .i64) w A0 l0.length l0) (hc0 : l0.length ≤ c0) (h : spec_l02Inverse.f k l0 = some r) :
    Calls Try.prog 116 #[.slice A0 l0.length c0] w fun e w' => ∃ v0_ : Value, e = .returned (v0_) ∧ Kd.R (Kd.int .i64) 3 w' w.heap.size (fun _ => True) v0_ r ∧ Below w.heap.size w w' := by
  have HR0 := Aside0.mk hr0
  have HC0 := Aside0.mk hc0
  clear hr0 hc0
  have HB := Aside0.mk (Below.refl w.heap.size w)
  have H := h
  unfold spec_l02Inverse.f at H
  clear h
  have c2 := cp_ H
  replace H := ca_ H
  have c2b0 := eq_true c2
  have c2b1 := decide_eq_true c2
  clear c2
  have c3 := cp_ H
  replace H := ca_ H
  have c3b0 := eq_true c3
  have c3b1 := decide_eq_true c3
  clear c3
  obtain ⟨y131, hy131⟩ : ∃ y_ : List Int, y_ = (List.replicate ((l0.length : Int) : Int).toNat 0) := ⟨_, rfl⟩
  replace H : (spec_l02Inverse.l0 k y131 l0 (l0.length : Int) 0) = some r := by first | (rw [hy131]; exact H) | exact H
  have Ny131 := Aside0.mk hy131
  clear hy131
  have H' := Aside0.mk H
  clear H
  go_enter Try.func116, Try.ntmps116
  go_wp2_with (first | ((with_reducible refine gate_dst (N := 8) rfl ?_); refine Kd.R_make (Kd.int .i64) _ 3 rfl (N := 8) rfl 22 _ _ rfl (l0.length : Int) rfl rfl Try.underlying22 (.int .i64 0) 8 info3 rfl (by decide) (by omega) 0 (ok := fun _ => True) (okp := fun _ => True) rfl (fun _ hk => hk) trivial (of_decide_eq_true qe_) (Nat.le_trans (Nat.mul_le_mul_right _ (of_decide_eq_true qe_ : (l0.length : Int).toNat ≤ 35184372088832)) (by omega)) (Below.refl _ _) (Nat.le_refl _) ?_; intro v132 w4 ho5 hb hg_ hnew_; clear hg_ hnew_; (first | rw [← Ny131.out] at ho5 | (simp only [Int.reduceToNat] at ho5; rw [← Ny131.out] at ho5)); have HO133 := rl_ w ho5; replace HB := b1_ hb; clear hb ho5))
  go_loopg [11] k (fun kq v11 w' => ∃ (x3_1 : List Int) (x11_1 : Int), v11 = .int .i64 x11_1 ∧ Aside0 (spec_l02Inverse.l0 kq x3_1 l0 (l0.length : Int) x11_1 = some r) ∧ Aside0 (kq ≤ k) ∧ Aside0 (Kd.R (Kd.int .i64) 3 w' w.heap.size (fun _ => True) v132 x3_1) ∧ Aside0 (Below w.heap.size w w'))
  case atStart => exact ⟨(y131), (0), qc_, H', ⟨Nat.le_refl _⟩, ⟨(rr_ HO133)⟩, ⟨hB_⟩⟩
  case round =>
    clear H'
    obtain ⟨x3_1, x11_1, rfl, HA, HK1, HO_3, HB⟩ := hrel
    cases gk with
    | zero => exact absurd HA.out (by simp [spec_l02Inverse.l0])
    | succ k1 =>
      have H := HA.out
      clear HA
      simp only [spec_l02Inverse.l0] at H
      by_cases c6 : x11_1 < (l0.length : Int)
      · rw [if_pos c6] at H
        have c6b0 := decide_eq_true c6
        clear c6
        have c7 := cp_ H
        replace H := ca_ H
        have c7b0 := decide_eq_true c7
        clear c7
        have c8 := cp_ H
        replace H := ca_ H
        have c8b0 := decide_eq_true c8
        clear c8
        have c9 := cp_ H
        replace H := ca_ H
        have c9b0 := decide_eq_true c9
        clear c9
        have c10 := cp_ H
        replace H := ca_ H
        have c10b0 := decide_eq_true c10
        clear c10
        obtain ⟨y135, hy135⟩ : ∃ y_ : List Int, y_ = (x3_1.set ((rd l0 x11_1) : Int).toNat x11_1) := ⟨_, rfl⟩
        replace H : (spec_l02Inverse.l0 k1 y135 l0 (l0.length : Int) (wrap64 (x11_1 + 1))) = some r := by first | (rw [hy135]; exact H) | exact H
        have Ny135 := Aside0.mk hy135
        clear hy135
        have H' := Aside0.mk H
        clear H
        have p134 : 0 ≤ (x11_1 : Int) := of_decide_eq_true qe_
        have q134 : x11_1 < (l0.length : Int) := of_decide_eq_true qe_
        obtain ⟨ad134, e134, hx134_0⟩ := Kd.at_int HR0.out x11_1 p134 q134
        cases e134
        replace hx134_0 := (HB.out.cell (World.block_lt_of_cell? w _ hx134_0)).trans hx134_0
        replace p134 := eq_true p134
        replace q134 := eq_true q134
        have p11 : 0 ≤ ((rd l0 x11_1) : Int) := of_decide_eq_true qe_
        have q11 : ((rd l0 x11_1) : Int) < ((x3_1.length : Int) : Int) := of_decide_eq_true qe_
        obtain ⟨go11, co11, eo11, gb11, gl11, cl11, HG11⟩ := Kd.R_form HO_3.out (by omega)
        (first | cases eo11 | (injection eo11 with ea_ en_ ec_; (first | subst ea_ | (injection ea_ with ea_; subst ea_)); subst ec_; clear en_))
        have GB11 := Aside0.mk gb11
        have GG11 := Aside0.mk HG11
        clear gb11 gl11 HG11
        obtain ⟨hx11_0, hf11_0⟩ := Kd.R_celln 0 HO_3.out ((rd l0 x11_1) : Int) p11 q11
        replace p11 := eq_true p11
        replace q11 := eq_true q11
        have HP12 := Kd.R_putg HO_3.out ((rd l0 x11_1) : Int) x11_1
        go_wp2_with (first | ((with_reducible refine gate_store (t := 3) (p := 19) rfl ?_); refine store_event (t := 3) (p := 19) (v := ?vo_w13) (w1 := (wr.setCell ⟨go11, ((rd l0 x11_1) : Int).toNat, none⟩ (.int .i64 x11_1))) ?hg ?ho ?hn ?hr ?_; (case ho => rfl); (case hg => rfl); (case hn => rfl); (case hr => first | (go_simp; done) | (go_simp; rfl)); intro w13 hw; have hg : wr.grownBy w13 (some go11) := (by rw [hw]; exact HP12.2); have hp_ : Kd.R (Kd.int .i64) 3 w13 w.heap.size (fun _ => True) (.slice (some ⟨go11, 0, none⟩) x3_1.length co11) y135 := (by rw [hw, Ny135.out]; exact HP12.1); clear HP12; replace HO_3 := Aside0.mk (hp_); replace HB := Aside0.mk ((by rw [hw]; exact below_set (HB.out) GB11.out : Below w.heap.size w w13)); clear hg hw hp_))
        go_roundg k1
        case measure => have := HK1.out; omega
        case rel => exact ⟨(y135), (wrap64 (x11_1 + 1)), qc_, H', ⟨by have := HK1.out; omega⟩, ⟨(rr_ HO_3)⟩, ⟨hB_⟩⟩
      · rw [if_neg c6] at H
        have c6b0 := decide_eq_false c6
        clear c6
        obtain rfl := Option.some.inj H
        go_wp2
        go_ret
        exact ⟨_, qb_, (rr_ HO_3), hB_⟩
end Go.Proofs.Ytbdnellgioimbaa.A
end
section
namespace Go.Proofs.Ytbdnellgioimbaa.A
open Go.RowKit Go.Proofs.YtbdnellgioimbaaW.PrintWords Go.Proofs.YtbdnellgioimbaaW.PrintLast Go.Proofs.YtbdnellgioimbaaW.PrintMore
attribute [local go_sem] max2_int min2_int max_two min_two max_three min_three max_four min_four
set_option linter.unusedVariables false
set_option linter.unusedSimpArgs false
def spec_l02Then.l0 : Nat → List Int → List Int → List Int → Int → Int → Option (List Int)
  | 0, _, _, _, _, _ => none
  | k + 1, x1, x5, x9, x10, x11 => if x11 < x10 then (if 0 ≤ x11 then (if x11 < (x9.length : Int) then (if 0 ≤ (rd x9 x11) then (if (rd x9 x11) < (x1.length : Int) then (if x5.length < 17592186044416 then (spec_l02Then.l0 k x1 (x5 ++ [rd x1 (rd x9 x11)]) x9 x10 (wrap64 (x11 + 1))) else (none)) else (none)) else (none)) else (none)) else (none)) else (some x5)
def spec_l02Then.f (k : Nat) (l0 : List Int) (l1 : List Int) : Option (List Int) := spec_l02Then.l0 k l1 (([] : List Int)) l0 (l0.length : Int) 0
theorem spec_l02Then.mono_l : ∀ k, (∀ y0 y1 y2 y3 y4, LeO (spec_l02Then.l0 k y0 y1 y2 y3 y4) (spec_l02Then.l0 (k + 1) y0 y1 y2 y3 y4))
  | 0 => fun _ _ _ _ _ r h => by simp [spec_l02Then.l0] at h
  | k + 1 => by
    have ih0 := spec_l02Then.mono_l k
    · intro y0 y1 y2 y3 y4
      unfold spec_l02Then.l0
      repeat' first|exact ih0 _ _ _ _ _|exact lo_|refine LeO.ite ?_ ?_|refine LeO.bind ?_ (fun _ => ?_)
theorem spec_l02Then.mono : ∀ a0 a1 k, LeO (spec_l02Then.f k a0 a1) (spec_l02Then.f (k + 1) a0 a1) := by
  intro a0 a1 k
  have ih0 := spec_l02Then.mono_l k
  unfold spec_l02Then.f
  repeat' first|exact ih0 _ _ _ _ _|exact lo_|refine LeO.ite ?_ ?_|refine LeO.bind ?_ (fun _ => ?_)
set_option maxHeartbeats 8000000 in
set_option maxRecDepth 100000 in
theorem spec_l02Then.calls (k : Nat) (A0 : Option Addr) (c0 : Nat) (l0 : List Int) (A1 : Option Addr) (c1 : Nat) (l1 : List Int) (r : List Int) (w : World) (hr0 : Kd.C (Kd.int .i64) w A0 l0.length l0) (hc0 : l0.length ≤ c0) (hr1 : Kd.C (Kd.int .i64) w A1 l1.length l1) (hc1 : l1.length ≤ c1) (h : spec_l02Then.f k l0 l1 = some r) :
    Calls Try.prog 102 #[.slice A0 l0.length c0, .slice A1 l1.length c1] w fun e w' => ∃ v0_ : Value, e = .returned (v0_) ∧ Kd.R (Kd.int .i64) 3 w' w.heap.size (fun _ => True) v0_ r ∧ Below w.heap.size w w' := by
  have HR0 := Aside0.mk hr0
  have HC0 := Aside0.mk hc0
  clear hr0 hc0
  have HR1 := Aside0.mk hr1
  have HC1 := Aside0.mk hc1
  clear hr1 hc1
  have HB := Aside0.mk (Below.refl w.heap.size w)
  have H := h
  unfold spec_l02Then.f at H
  clear h
  obtain ⟨y191, hy191⟩ : ∃ y_ : List Int, y_ = (([] : List Int)) := ⟨_, rfl⟩
  replace H : (spec_l02Then.l0 k l1 y191 l0 (l0.length : Int) 0) = some r := by first | (rw [hy191]; exact H) | exact H
  have Ny191 := Aside0.mk hy191
  clear hy191
  have H' := Aside0.mk H
  clear H
  go_enter Try.func102, Try.ntmps102
  go_wp2_with (first | ((with_reducible refine gate_dst (N := 8) rfl ?_); refine Kd.R_lit (Kd.int .i64) _ 3 ?hg (N := 8) ?hd (xs := ([] : List Int)) (inner := []) (ok := fun _ => True) (okp := fun _ => True) ?hr ?hp (fun _ hk => hk) trivial (Below.refl _ _) (Nat.le_refl _) (by simp) ?_; (case hd => rfl); (case hg => rfl); (case hr => first | (go_simp; done) | (go_simp; rfl)); (case hp => exact (Reps.none _ _)); intro v192 w3 ho4 hb hg_ hnew_; clear hg_ hnew_; (first | rw [← Ny191.out] at ho4 | (simp only [Int.reduceToNat] at ho4; rw [← Ny191.out] at ho4)); have HO193 := rl_ w ho4; replace HB := b1_ hb; clear hb ho4))
  go_loopg [5, 11] k (fun kq v5 v11 w' => ∃ (x5_1 : List Int) (x11_1 : Int), v11 = .int .i64 x11_1 ∧ Aside0 (spec_l02Then.l0 kq l1 x5_1 l0 (l0.length : Int) x11_1 = some r) ∧ Aside0 (kq ≤ k) ∧ Aside0 (Kd.R (Kd.int .i64) 3 w' w.heap.size (fun _ => True) v5 x5_1) ∧ Aside0 (Below w.heap.size w w'))
  case atStart => exact ⟨(y191), (0), qc_, H', ⟨Nat.le_refl _⟩, ⟨(rr_ HO193)⟩, ⟨hB_⟩⟩
  case round =>
    clear H'
    obtain ⟨x5_1, x11_1, rfl, HA, HK1, HO_5, HB⟩ := hrel
    cases gk with
    | zero => exact absurd HA.out (by simp [spec_l02Then.l0])
    | succ k1 =>
      have H := HA.out
      clear HA
      simp only [spec_l02Then.l0] at H
      by_cases c5 : x11_1 < (l0.length : Int)
      · rw [if_pos c5] at H
        have c5b0 := decide_eq_true c5
        clear c5
        have c6 := cp_ H
        replace H := ca_ H
        have c6b0 := decide_eq_true c6
        clear c6
        have c7 := cp_ H
        replace H := ca_ H
        have c7b0 := decide_eq_true c7
        clear c7
        have c8 := cp_ H
        replace H := ca_ H
        have c8b0 := decide_eq_true c8
        clear c8
        have c9 := cp_ H
        replace H := ca_ H
        have c9b0 := decide_eq_true c9
        clear c9
        have c10 := cp_ H
        replace H := ca_ H
        have LMc10 := Aside0.mk c10
        clear c10
        obtain ⟨y196, hy196⟩ : ∃ y_ : List Int, y_ = (x5_1 ++ [rd l1 (rd l0 x11_1)]) := ⟨_, rfl⟩
        replace H : (spec_l02Then.l0 k1 l1 y196 l0 (l0.length : Int) (wrap64 (x11_1 + 1))) = some r := by first | (rw [hy196]; exact H) | exact H
        have Ny196 := Aside0.mk hy196
        clear hy196
        have H' := Aside0.mk H
        clear H
        have p194 : 0 ≤ (x11_1 : Int) := of_decide_eq_true qe_
        have q194 : x11_1 < (l0.length : Int) := of_decide_eq_true qe_
        obtain ⟨ad194, e194, hx194_0⟩ := Kd.at_int HR0.out x11_1 p194 q194
        cases e194
        replace hx194_0 := (HB.out.cell (World.block_lt_of_cell? w _ hx194_0)).trans hx194_0
        replace p194 := eq_true p194
        replace q194 := eq_true q194
        have p195 : 0 ≤ ((rd l0 x11_1) : Int) := of_decide_eq_true qe_
        have q195 : (rd l0 x11_1) < (l1.length : Int) := of_decide_eq_true qe_
        obtain ⟨ad195, e195, hx195_0⟩ := Kd.at_int HR1.out (rd l0 x11_1) p195 q195
        cases e195
        replace hx195_0 := (HB.out.cell (World.block_lt_of_cell? w _ hx195_0)).trans hx195_0
        replace p195 := eq_true p195
        replace q195 := eq_true q195
        go_wp2_with (first | ((with_reducible refine gate_builtin (b := .append) (xs := #[.tmp 15, .tmp 20]) rfl ?_); at_builtin; refine Kd.R_append (Kd.int .i64) (w0 := w) w.heap.size rfl (.tmp 15) (.tmp 20) 22 3 (.int .i64 0) 8 rfl Try.underlying22 info3 rfl (by decide) (by omega) u5 x5_1 (rd l1 (rd l0 x11_1)) [.int .i64 (rd l1 (rd l0 x11_1))] (fun _ => True) (fun _ => False) rfl rfl ?aP (fun _ hk => hk.elim) ?aF ?aO ?aB ?aS ?aL ?_; (case aP => exact rfl); (case aB => exact hB_); (case aF => exact (fun _ _ => trivial)); (case aO => exact (rr_ HO_5)); (case aS => exact (below_size hB_)); (case aL => have := LMc10.out; omega); intro v197 w11 ho hb hg hat; rw [← Ny196.out] at ho; replace HB := Aside0.mk hb; have HO198 := Aside0.mk ho; clear HO_5; clear ho hb hg hat))
        go_roundg k1
        case measure => have := HK1.out; omega
        case rel => exact ⟨(y196), (wrap64 (x11_1 + 1)), qc_, H', ⟨by have := HK1.out; omega⟩, ⟨(rr_ HO198)⟩, ⟨hB_⟩⟩
      · rw [if_neg c5] at H
        have c5b0 := decide_eq_false c5
        clear c5
        obtain rfl := Option.some.inj H
        go_wp2
        go_ret
        exact ⟨_, qb_, (rr_ HO_5), hB_⟩
end Go.Proofs.Ytbdnellgioimbaa.A
end
section
namespace Go.Proofs.Ytbdnellgioimbaa.A
open Go.RowKit Go.Proofs.YtbdnellgioimbaaW.PrintWords Go.Proofs.YtbdnellgioimbaaW.PrintLast Go.Proofs.YtbdnellgioimbaaW.PrintMore
attribute [local go_sem] max2_int min2_int max_two min_two max_three min_three max_four min_four
set_option linter.unusedVariables false
set_option linter.unusedSimpArgs false
def spec_l05Shear.f (k : Nat) (l0_0 : List Int) (l0_1 : List Int) : Option (List Int × List Int) := (some (([] : List Int) : List Int)).bind fun y812 => (if y812.length + l0_0.length < 17592186044416 then ((spec_l02Inverse.f k l0_0).bind fun t818 => ((spec_l02Then.f k t818 l0_1).bind fun t821 => (some ((y812 ++ l0_0), t821)))) else (none))
theorem spec_l05Shear.mono : ∀ a0 a1 k, LeO (spec_l05Shear.f k a0 a1) (spec_l05Shear.f (k + 1) a0 a1) := by
  intro a0 a1 k
  unfold spec_l05Shear.f
  repeat' first|exact spec_l02Inverse.mono _ _|exact spec_l02Then.mono _ _ _|exact lo_|refine LeO.ite ?_ ?_|refine LeO.bind ?_ (fun _ => ?_)
def spec_l05Shear.T1 : Bool × List (List Nat × List Nat) := (true, [([], []), ([], []), ([1], [1]), ([0, 2], [0, 2]), ([], []), ([4], [4]), ([5, 3], [5]), ([], []), ([7], [7]), ([6, 8, 6], [6, 8]), ([3, 9], [3, 9]), ([10, 9, 0, 1, 2, 3, 4, 5, 6, 7, 8, 9, 10], [10])])
def spec_l05Shear.B1 : List Nat := [0, 0, 2, 7, 0, 16, 63, 0, 128, 511, 1023, 2047]
theorem spec_l05Shear.tab1 : rtab .any (opsOf Try.f74 1) = spec_l05Shear.T1 := by kernel_rfl
theorem spec_l05Shear.bits1 : waitsOk spec_l05Shear.T1.2 spec_l05Shear.B1 = true := by kernel_rfl
set_option maxHeartbeats 8000000 in
set_option maxRecDepth 100000 in
theorem spec_l05Shear.calls (k : Nat) (A0_0 : Option Addr) (c0_0 : Nat) (l0_0 : List Int) (A0_1 : Option Addr) (c0_1 : Nat) (l0_1 : List Int) (r1 : List Int) (r2 : List Int) (w : World) (hr0_0 : Kd.C (Kd.int .i64) w A0_0 l0_0.length l0_0) (hc0_0 : l0_0.length ≤ c0_0) (hr0_1 : Kd.C (Kd.int .i64) w A0_1 l0_1.length l0_1) (hc0_1 : l0_1.length ≤ c0_1) (h : spec_l05Shear.f k l0_0 l0_1 = some (r1, r2)) :
    Calls Try.prog 74 #[.agg #[.slice A0_0 l0_0.length c0_0, .slice A0_1 l0_1.length c0_1]] w fun e w' => ∃ v0_ v1_ : Value, e = .returned (.agg #[v0_, v1_]) ∧ Kd.R (Kd.int .i64) 3 w' w.heap.size (fun k_ => some k_ ≠ (v1_ : Value).ownBlock) v0_ r1 ∧ Kd.R (Kd.int .i64) 3 w' w.heap.size (fun k_ => some k_ ≠ (v0_ : Value).ownBlock) v1_ r2 ∧ Below w.heap.size w w' := by
  have hu27 := Try.underlying27
  have HR0_0 := Aside0.mk hr0_0
  have HC0_0 := Aside0.mk hc0_0
  clear hr0_0 hc0_0
  have HR0_1 := Aside0.mk hr0_1
  have HC0_1 := Aside0.mk hc0_1
  clear hr0_1 hc0_1
  have HB := Aside0.mk (Below.refl w.heap.size w)
  have H := h
  unfold spec_l05Shear.f at H
  clear h
  obtain ⟨y812, hy812⟩ : ∃ y_ : List Int, y_ = (([] : List Int)) := ⟨_, rfl⟩
  replace H : (if y812.length + l0_0.length < 17592186044416 then ((spec_l02Inverse.f k l0_0).bind fun t818 => ((spec_l02Then.f k t818 l0_1).bind fun t821 => (some ((y812 ++ l0_0), t821)))) else (none)) = some (r1, r2) := by first | (rw [hy812]; exact H) | exact H
  have Ny812 := Aside0.mk hy812
  clear hy812
  have c2 := cp_ H
  replace H := ca_ H
  have LMc2 := Aside0.mk c2
  clear c2
  obtain ⟨y815, hy815⟩ : ∃ y_ : List Int, y_ = (y812 ++ l0_0) := ⟨_, rfl⟩
  replace H : ((spec_l02Inverse.f k l0_0).bind fun t818 => ((spec_l02Then.f k t818 l0_1).bind fun t821 => (some (y815, t821)))) = some (r1, r2) := by first | (rw [hy815]; exact H) | exact H
  have Ny815 := Aside0.mk hy815
  clear hy815
  obtain ⟨t818, A3, H⟩ := bi_ H
  obtain ⟨t821, A4, H⟩ := bi_ H
  simp only [Option.some.injEq, Prod.mk.injEq] at H
  obtain ⟨rfl, rfl⟩ := H
  go_enter Try.func74, Try.ntmps74
  try go_wp2_with (first | ((with_reducible refine gate_dst (N := 1) rfl ?_); refine bx_ 1 #[.slice A0_0 l0_0.length c0_0, .slice A0_1 l0_1.length c0_1] 27 ?_; intro gb810 hg w5 hbox hb; have BK810 := Aside0.mk hbox; have GW810 := gw_ w hg; have GE810 := GW810; replace HB := b1_ hb; clear hb hbox hg) | ((with_reducible refine gate_dst (N := 2) rfl ?_); refine bx_ 2 #[.slice none 0 0, .slice none 0 0] 27 ?_; intro gb811 hg w6 hbox hb; have BK811 := Aside0.mk hbox; have GW811 := gw_ w hg; have GE811 := GW811; replace HB := b1_ hb; have NB810_811 := gN_ BK810 hg; have NB811_810 := gP_ BK810 hg; replace BK810 := bb_ BK810 hb; clear hb hbox hg))
  replace BK810 := Aside0.mk (blk_drew BK810.out)
  replace BK811 := Aside0.mk (blk_drew BK811.out)
  replace HB := Aside0.mk (below_drew1 HB.out)
  refine start_ (n := 12) (S := fun w' => w'.cell? ⟨gb810, 0, none⟩ = some (.slice A0_0 l0_0.length c0_0) ∧ w'.cell? ⟨gb810, 1, none⟩ = some (.slice A0_1 l0_1.length c0_1)) (ds := []) (bl_ 12 0) (by kernel_rfl) rfl (by kernel_rfl) ⟨cz0_ BK810, cz1_ BK810⟩ (fun hHeld => ?_); refine with_tabW spec_l05Shear.tab1 spec_l05Shear.bits1 (fun HT_ HW_ => ?_)
  generalize w6.drew = w7 at BK810 BK811 HB hHeld ⊢
  refine pu_ 1 (some 4) (bl_ 12 2) HT_ ?_
  refine pu_ 4 (some 7) (bl_ 12 18) HT_ ?_
  refine pu_ 7 (some 10) (bl_ 12 146) HT_ ?_
  refine ta_ 2 (some 5) (bl_ 12 150) HT_ HW_ hHeld ?_
  refine ta_ 5 (some 8) (bl_ 12 182) HT_ HW_ hHeld ?_
  refine ta_ 8 (some 11) (bl_ 12 438) HT_ HW_ hHeld ?_
  refine on_ 0 (some 3) (bl_ 12 439) HT_ (fun K hK => ?_)
  refine Kd.R_lit_step (Kd.int .i64) _ 3 ?hg (N := 3) ?hd (xs := ([] : List Int)) (inner := []) (ok := fun _ => True) (okp := fun _ => True) ?hr ?hp (fun _ hk => hk) trivial (Below.refl _ _) (Nat.le_refl _) (by simp) ?_; (case hd => rfl); (case hg => rfl); (case hr => first | (go_simp; done) | (go_simp; rfl)); (case hp => exact (Reps.none _ _))
  intro v813 w8 ho9 hb hg_ hnew_
  clear hg_ hnew_
  (first | rw [← Ny812.out] at ho9 | (simp only [Int.reduceToNat] at ho9; rw [← Ny812.out] at ho9))
  have HO814 := rl_ w ho9
  replace BK810 := bb_ BK810 hb
  replace BK811 := bb_ BK811 hb
  replace HB := b1_ hb
  clear hb ho9
  refine hK.out _ _ ⟨cz0_ BK810, cz1_ BK810⟩ (fun hHeld => ?_)
  clear hK K
  refine no_ (some 3) ?_
  refine on_ 3 (some 6) (bl_ 12 447) HT_ (fun K hK => ?_)
  refine Kd.R_append_rows_step (Kd.int .i64) (w0 := w) w.heap.size (by rfl) (.tmp 3) (.tmp 5) 22 3 (.int .i64 0) 8 rfl Try.underlying22 info3 rfl (by decide) (by omega) v813 y812 l0_0 _ _ _ (fun _ => True) (fun _ => False) rfl rfl ?aO ?aR (fun _ _ h => h) (fun _ h => h.elim) ?aF ?aB ?aS ?aL ?_
  (case aR => exact cb_ HR0_0)
  (case aB => exact hB_)
  (case aF => exact (fun _ _ => trivial))
  (case aO => exact (rr_ HO814))
  (case aS => exact (below_size hB_))
  (case aL => have := LMc2.out; omega)
  intro v816 w10 ho hb hg hat
  rw [← Ny815.out] at ho
  replace BK810 := Aside0.mk (blk_grown (kk_ BK810) hg (Kd.R_ne HO814.out BK810.out (by decide)))
  replace BK811 := Aside0.mk (blk_grown (kk_ BK811) hg (Kd.R_ne HO814.out BK811.out (by decide)))
  replace HB := Aside0.mk hb
  have HO817 := Aside0.mk ho
  clear HO814
  clear ho hb hg hat
  refine hK.out _ _ ⟨cz0_ BK810, cz1_ BK810⟩ (fun hHeld => ?_)
  clear hK K
  refine no_ (some 6) ?_
  refine on_ 6 (some 9) (bl_ 12 511) HT_ (fun K hK => ?_)
  refine gO_ Try.func116 #[.slice A0_0 l0_0.length c0_0] (by rfl) rfl rfl qa_ ?_
  with_reducible refine (spec_l02Inverse.calls k _ _ l0_0 t818 _ (cb_ HR0_0) HC0_0.out A3.out).mono ?_
  rintro e w11 ⟨v819, rfl, ho0, hb⟩
  refine ⟨_, rfl, ?_⟩
  have HO820 := Aside0.mk (Kd.R_lower (Kd.R_new' ho0 (Kd.R_lt (rr_ HO817))) (below_size hB_))
  replace HO817 := Aside0.mk (Kd.R_elder' (rr_ HO817) (Kd.R_base ho0) hb)
  replace BK810 := bb_ BK810 hb
  replace BK811 := bb_ BK811 hb
  replace HB := b1_ hb
  clear hb ho0
  obtain ⟨Ao12, co12, eo12⟩ := Kd.R_slice HO820.out
  (first | subst eo12 | (injection eo12 with f1_ f2_ f3_; have f4_ := f1_.symm; have f5_ := f3_.symm; clear f1_ f2_ f3_; subst f4_; subst f5_))
  refine hK.out _ _ ⟨cz0_ BK810, cz1_ BK810⟩ (fun hHeld => ?_)
  clear hK K
  refine no_ (some 9) ?_
  refine on_ 9 (some 12) (bl_ 12 1023) HT_ (fun K hK => ?_)
  refine gO_ Try.func102 #[.slice Ao12 t818.length co12, .slice A0_1 l0_1.length c0_1] (by rfl) rfl rfl qa_ ?_
  with_reducible refine (spec_l02Then.calls k _ _ t818 _ _ l0_1 t821 _ (cr_ HO820) ((Kd.R_reads' HO820.out).2.1) (cb_ HR0_1) HC0_1.out A4.out).mono ?_
  rintro e w13 ⟨v822, rfl, ho0, hb⟩
  refine ⟨_, rfl, ?_⟩
  have HO823 := Aside0.mk (Kd.R_lower (Kd.R_new' (Kd.R_new' ho0 (Kd.R_lt (rr_ HO817))) (Kd.R_lt (rr_ HO820))) (below_size hB_))
  replace HO817 := Aside0.mk (Kd.R_elder' (rr_ HO817) (Kd.R_base ho0) hb)
  replace HO820 := Aside0.mk (Kd.R_elder' (rr_ HO820) (Kd.R_base ho0) hb)
  replace BK810 := bb_ BK810 hb
  replace BK811 := bb_ BK811 hb
  replace HB := b1_ hb
  clear hb ho0
  obtain ⟨Ao14, co14, eo14⟩ := Kd.R_slice HO823.out
  (first | subst eo14 | (injection eo14 with f1_ f2_ f3_; have f4_ := f1_.symm; have f5_ := f3_.symm; clear f1_ f2_ f3_; subst f4_; subst f5_))
  obtain ⟨Ao15, co15, eo15⟩ := Kd.R_slice HO817.out
  (first | subst eo15 | (injection eo15 with f1_ f2_ f3_; have f4_ := f1_.symm; have f5_ := f3_.symm; clear f1_ f2_ f3_; subst f4_; subst f5_))
  refine hK.out _ _ ⟨cz0_ BK810, cz1_ BK810⟩ (fun hHeld => ?_)
  clear hK K
  refine no_ (some 12) ?_
  refine pu_ 10 (some 13) (bl_ 12 2047) HT_ ?_
  refine on_ 11 (none) (bl_ 12 4095) HT_ (fun K hK => ?_)
  have hs16 : w13.cell? ⟨gb811, 0, none⟩ = some (.slice none 0 0) := cz0_ BK811
  have hfs16 := blk_frozen BK811.out 0
  have hns16_0 := NB810_811.out
  have hms16_0 := NB811_810.out
  have hs17 : w13.cell? ⟨gb811, 1, none⟩ = some (.slice none 0 0) := cz1_ BK811
  have hfs17 := blk_frozen BK811.out 1
  have hns17_0 := NB810_811.out
  have hms17_0 := NB811_810.out
  refine skip_ (w1 := ?_) (by rfl) rfl ?_ ?_
  rotate_left
  · go_simp
    rfl
  refine hK.out _ _ ⟨((cell_far (p := ⟨gb811, _, none⟩) NB810_811.out _).trans (((cell_far (p := ⟨gb811, _, none⟩) NB810_811.out _).trans (hHeld.1)))), ((cell_far (p := ⟨gb811, _, none⟩) NB810_811.out _).trans (((cell_far (p := ⟨gb811, _, none⟩) NB810_811.out _).trans (hHeld.2))))⟩ (fun hHeld => ?_)
  clear hK K
  refine done_ (done_of HT_.out (by kernel_rfl)) ?_
  try go_wp2
  refine bodyPost_ret (results_cell_row rfl _ _ gb811 27 #[.slice Ao15 y815.length co15, .slice Ao14 t821.length co14] (0, 0) _ rfl qp_ Try.underlying27 rfl (by kernel_rfl)) rfl ?_
  exact ⟨_, _, qb_, (rw_ (Kd.R_mono (fa_ HO817 BK811) (fun _ hk => hk.2))), (rw_ (Kd.R_mono (fa_ HO823 BK811) (fun _ hk => hk.1.2))), hB_⟩
end Go.Proofs.Ytbdnellgioimbaa.A
end
section
namespace Go.Proofs.Ytbdnellgioimbaa.A
open Go.RowKit Go.Proofs.YtbdnellgioimbaaW.PrintWords Go.Proofs.YtbdnellgioimbaaW.PrintLast Go.Proofs.YtbdnellgioimbaaW.PrintMore
attribute [local go_sem] max2_int min2_int max_two min_two max_three min_three max_four min_four
set_option linter.unusedVariables false
set_option linter.unusedSimpArgs false
def spec_l02Identity.l0 : Nat → Int → List Int → Int → Option (List Int)
  | 0, _, _, _ => none
  | k + 1, x0, x3, x4 => if x4 < x0 then (if x3.length < 17592186044416 then (spec_l02Identity.l0 k x0 (x3 ++ [x4]) (wrap64 (x4 + 1))) else (none)) else (some x3)
def spec_l02Identity.f (k : Nat) (a0 : Int) : Option (List Int) := spec_l02Identity.l0 k a0 (([] : List Int)) 0
theorem spec_l02Identity.mono_l : ∀ k, (∀ y0 y1 y2, LeO (spec_l02Identity.l0 k y0 y1 y2) (spec_l02Identity.l0 (k + 1) y0 y1 y2))
  | 0 => fun _ _ _ r h => by simp [spec_l02Identity.l0] at h
  | k + 1 => by
    have ih0 := spec_l02Identity.mono_l k
    · intro y0 y1 y2
      unfold spec_l02Identity.l0
      repeat' first|exact ih0 _ _ _|exact lo_|refine LeO.ite ?_ ?_|refine LeO.bind ?_ (fun _ => ?_)
theorem spec_l02Identity.mono : ∀ a0 k, LeO (spec_l02Identity.f k a0) (spec_l02Identity.f (k + 1) a0) := by
  intro a0 k
  have ih0 := spec_l02Identity.mono_l k
  unfold spec_l02Identity.f
  repeat' first|exact ih0 _ _ _|exact lo_|refine LeO.ite ?_ ?_|refine LeO.bind ?_ (fun _ => ?_)
set_option maxHeartbeats 8000000 in
set_option maxRecDepth 100000 in
theorem spec_l02Identity.calls (k : Nat) (a0 : Int) (r : List Int) (w : World) (h : spec_l02Identity.f k a0 = some r) :
    Calls Try.prog 103 #[.int .i64 a0] w fun e w' => ∃ v0_ : Value, e = .returned (v0_) ∧ Kd.R (Kd.int .i64) 3 w' w.heap.size (fun _ => True) v0_ r ∧ Below w.heap.size w w' := by
  have HB := Aside0.mk (Below.refl w.heap.size w)
  have H := h
  unfold spec_l02Identity.f at H
  clear h
  obtain ⟨y199, hy199⟩ : ∃ y_ : List Int, y_ = (([] : List Int)) := ⟨_, rfl⟩
  replace H : (spec_l02Identity.l0 k a0 y199 0) = some r := by first | (rw [hy199]; exact H) | exact H
  have Ny199 := Aside0.mk hy199
  clear hy199
  have H' := Aside0.mk H
  clear H
  go_enter Try.func103, Try.ntmps103
  go_wp2_with (first | ((with_reducible refine gate_dst (N := 5) rfl ?_); refine Kd.R_lit (Kd.int .i64) _ 3 ?hg (N := 5) ?hd (xs := ([] : List Int)) (inner := []) (ok := fun _ => True) (okp := fun _ => True) ?hr ?hp (fun _ hk => hk) trivial (Below.refl _ _) (Nat.le_refl _) (by simp) ?_; (case hd => rfl); (case hg => rfl); (case hr => first | (go_simp; done) | (go_simp; rfl)); (case hp => exact (Reps.none _ _)); intro v200 w2 ho3 hb hg_ hnew_; clear hg_ hnew_; (first | rw [← Ny199.out] at ho3 | (simp only [Int.reduceToNat] at ho3; rw [← Ny199.out] at ho3)); have HO201 := rl_ w ho3; replace HB := b1_ hb; clear hb ho3))
  go_loopg [3, 4] k (fun kq v3 v4 w' => ∃ (x3_1 : List Int) (x4_1 : Int), v4 = .int .i64 x4_1 ∧ Aside0 (spec_l02Identity.l0 kq a0 x3_1 x4_1 = some r) ∧ Aside0 (kq ≤ k) ∧ Aside0 (Kd.R (Kd.int .i64) 3 w' w.heap.size (fun _ => True) v3 x3_1) ∧ Aside0 (Below w.heap.size w w'))
  case atStart => exact ⟨(y199), (0), qc_, H', ⟨Nat.le_refl _⟩, ⟨(rr_ HO201)⟩, ⟨hB_⟩⟩
  case round =>
    clear H'
    obtain ⟨x3_1, x4_1, rfl, HA, HK1, HO_3, HB⟩ := hrel
    cases gk with
    | zero => exact absurd HA.out (by simp [spec_l02Identity.l0])
    | succ k1 =>
      have H := HA.out
      clear HA
      simp only [spec_l02Identity.l0] at H
      by_cases c4 : x4_1 < a0
      · rw [if_pos c4] at H
        have c4b0 := decide_eq_true c4
        clear c4
        have c5 := cp_ H
        replace H := ca_ H
        have LMc5 := Aside0.mk c5
        clear c5
        obtain ⟨y202, hy202⟩ : ∃ y_ : List Int, y_ = (x3_1 ++ [x4_1]) := ⟨_, rfl⟩
        replace H : (spec_l02Identity.l0 k1 a0 y202 (wrap64 (x4_1 + 1))) = some r := by first | (rw [hy202]; exact H) | exact H
        have Ny202 := Aside0.mk hy202
        clear hy202
        have H' := Aside0.mk H
        clear H
        go_wp2_with (first | ((with_reducible refine gate_builtin (b := .append) (xs := #[.tmp 11, .tmp 13]) rfl ?_); at_builtin; refine Kd.R_append (Kd.int .i64) (w0 := w) w.heap.size rfl (.tmp 11) (.tmp 13) 22 3 (.int .i64 0) 8 rfl Try.underlying22 info3 rfl (by decide) (by omega) u3 x3_1 x4_1 [.int .i64 x4_1] (fun _ => True) (fun _ => False) rfl rfl ?aP (fun _ hk => hk.elim) ?aF ?aO ?aB ?aS ?aL ?_; (case aP => exact rfl); (case aB => exact hB_); (case aF => exact (fun _ _ => trivial)); (case aO => exact (rr_ HO_3)); (case aS => exact (below_size hB_)); (case aL => have := LMc5.out; omega); intro v203 w6 ho hb hg hat; rw [← Ny202.out] at ho; replace HB := Aside0.mk hb; have HO204 := Aside0.mk ho; clear HO_3; clear ho hb hg hat))
        go_roundg k1
        case measure => have := HK1.out; omega
        case rel => exact ⟨(y202), (wrap64 (x4_1 + 1)), qc_, H', ⟨by have := HK1.out; omega⟩, ⟨(rr_ HO204)⟩, ⟨hB_⟩⟩
      · rw [if_neg c4] at H
        have c4b0 := decide_eq_false c4
        clear c4
        obtain rfl := Option.some.inj H
        go_wp2
        go_ret
        exact ⟨_, qb_, (rr_ HO_3), hB_⟩
end Go.Proofs.Ytbdnellgioimbaa.A
end
section
namespace Go.Proofs.Ytbdnellgioimbaa.A
open Go.RowKit Go.Proofs.YtbdnellgioimbaaW.PrintWords Go.Proofs.YtbdnellgioimbaaW.PrintLast Go.Proofs.YtbdnellgioimbaaW.PrintMore
attribute [local go_sem] max2_int min2_int max_two min_two max_three min_three max_four min_four
set_option linter.unusedVariables false
set_option linter.unusedSimpArgs false
mutual
def spec_EllOf.j0 : Nat → Int → Int → Bool → Option (List Int × List Int × Bool)
  | 0, _, _, _ => none
  | k + 1, x0, x1, x24 => if x24 = true then (some (([] : List Int), ([] : List Int), false)) else ((spec_l02Identity.f k (wrap64 ((wrap64 (x0 + x1)) - 1))).bind fun t827 => ((spec_l02Identity.f k (wrap64 ((wrap64 (x0 + x1)) - 1))).bind fun t830 => (spec_EllOf.l0 k x0 x1 (wrap64 ((wrap64 (x0 + x1)) - 1)) 0 t827 t830)))
def spec_EllOf.l0 : Nat → Int → Int → Int → Int → List Int → List Int → Option (List Int × List Int × Bool)
  | 0, _, _, _, _, _, _ => none
  | k + 1, x0, x1, x6, x8, x834000, x834001 => if x8 < x0 then (if x0 = 0 then (none) else (if 0 ≤ x8 then (if x8 < (x834000.length : Int) then (spec_EllOf.l0 k x0 x1 x6 (wrap64 (x8 + 1)) (x834000.set (x8 : Int).toNat (Int.tmod (wrap64 (x8 + 1)) x0)) x834001) else (none)) else (none))) else (if x1 > 1 then (if 0 < (x834001.length : Int) then (spec_EllOf.l1 k x6 x0 x834000 (x834001.set (0 : Int).toNat x0)) else (none)) else (some (x834000, x834001, true)))
def spec_EllOf.l1 : Nat → Int → Int → List Int → List Int → Option (List Int × List Int × Bool)
  | 0, _, _, _, _ => none
  | k + 1, x6, x9, x834000, x834001 => if x9 < x6 then (if x6 = 0 then (none) else (if 0 ≤ x9 then (if x9 < (x834001.length : Int) then (spec_EllOf.l1 k x6 (wrap64 (x9 + 1)) x834000 (x834001.set (x9 : Int).toNat (Int.tmod (wrap64 (x9 + 1)) x6))) else (none)) else (none))) else (some (x834000, x834001, true))
end
def spec_EllOf.f (k : Nat) (a0 : Int) (a1 : Int) : Option (List Int × List Int × Bool) := (spec_l01In.f a0 1 24).bind fun t825 => (if t825 = true then ((spec_l01In.f a1 1 24).bind fun t826 => (if t826 = true then (spec_EllOf.j0 k a0 a1 (decide ((wrap64 ((wrap64 (a0 + a1)) - 1)) > 24))) else (spec_EllOf.j0 k a0 a1 true))) else (spec_EllOf.j0 k a0 a1 true))
theorem spec_EllOf.mono_l : ∀ k, (∀ y0 y1 y2, LeO (spec_EllOf.j0 k y0 y1 y2) (spec_EllOf.j0 (k + 1) y0 y1 y2)) ∧ (∀ y0 y1 y2 y3 y4 y5, LeO (spec_EllOf.l0 k y0 y1 y2 y3 y4 y5) (spec_EllOf.l0 (k + 1) y0 y1 y2 y3 y4 y5)) ∧ (∀ y0 y1 y2 y3, LeO (spec_EllOf.l1 k y0 y1 y2 y3) (spec_EllOf.l1 (k + 1) y0 y1 y2 y3))
  | 0 => ⟨fun _ _ _ r h => by simp [spec_EllOf.j0] at h, fun _ _ _ _ _ _ r h => by simp [spec_EllOf.l0] at h, fun _ _ _ _ r h => by simp [spec_EllOf.l1] at h⟩
  | k + 1 => by
    obtain ⟨ih0, ih1, ih2⟩ := spec_EllOf.mono_l k
    refine ⟨?_, ?_, ?_⟩
    · intro y0 y1 y2
      unfold spec_EllOf.j0
      repeat' first|exact ih0 _ _ _|exact ih1 _ _ _ _ _ _|exact ih2 _ _ _ _|exact spec_l02Identity.mono _ _|exact lo_|refine LeO.ite ?_ ?_|refine LeO.bind ?_ (fun _ => ?_)
    · intro y0 y1 y2 y3 y4 y5
      unfold spec_EllOf.l0
      repeat' first|exact ih0 _ _ _|exact ih1 _ _ _ _ _ _|exact ih2 _ _ _ _|exact spec_l02Identity.mono _ _|exact lo_|refine LeO.ite ?_ ?_|refine LeO.bind ?_ (fun _ => ?_)
    · intro y0 y1 y2 y3
      unfold spec_EllOf.l1
      repeat' first|exact ih0 _ _ _|exact ih1 _ _ _ _ _ _|exact ih2 _ _ _ _|exact spec_l02Identity.mono _ _|exact lo_|refine LeO.ite ?_ ?_|refine LeO.bind ?_ (fun _ => ?_)
theorem spec_EllOf.mono : ∀ a0 a1 k, LeO (spec_EllOf.f k a0 a1) (spec_EllOf.f (k + 1) a0 a1) := by
  intro a0 a1 k
  obtain ⟨ih0, ih1, ih2⟩ := spec_EllOf.mono_l k
  unfold spec_EllOf.f
  repeat' first|exact ih0 _ _ _|exact ih1 _ _ _ _ _ _|exact ih2 _ _ _ _|exact spec_l02Identity.mono _ _|exact lo_|refine LeO.ite ?_ ?_|refine LeO.bind ?_ (fun _ => ?_)
def spec_EllOf.T8 : Bool × List (List Nat × List Nat) := (true, [([], []), ([0], [0]), ([], []), ([], []), ([3], [3]), ([], []), ([4, 5], [4, 5]), ([1, 2, 0, 1, 2, 3, 4, 5, 6], [1, 2]), ([7, 6, 0, 1, 2, 3, 4, 5, 6], [6, 7])])
def spec_EllOf.B8 : List Nat := [0, 1, 0, 0, 8, 0, 56, 127, 255]
theorem spec_EllOf.tab8 : rtab .any (opsOf Try.f75 8) = spec_EllOf.T8 := by kernel_rfl
theorem spec_EllOf.bits8 : waitsOk spec_EllOf.T8.2 spec_EllOf.B8 = true := by kernel_rfl
def spec_EllOf.T14 : Bool × List (List Nat × List Nat) := (true, [([], []), ([0], [0]), ([], []), ([], []), ([3], [3]), ([], []), ([4, 5], [4, 5]), ([1, 2, 0, 1, 2, 3, 4, 5, 6], [1, 2]), ([7, 6, 0, 1, 2, 3, 4, 5, 6], [6, 7])])
def spec_EllOf.B14 : List Nat := [0, 1, 0, 0, 8, 0, 56, 127, 255]
theorem spec_EllOf.tab14 : rtab .any (opsOf Try.f75 14) = spec_EllOf.T14 := by kernel_rfl
theorem spec_EllOf.bits14 : waitsOk spec_EllOf.T14.2 spec_EllOf.B14 = true := by kernel_rfl
set_option maxHeartbeats 8000000 in
set_option maxRecDepth 100000 in
theorem spec_EllOf.calls (k : Nat) (a0 : Int) (a1 : Int) (r1 : List Int) (r2 : List Int) (r3 : Bool) (w : World) (h : spec_EllOf.f k a0 a1 = some (r1, r2, r3)) :
    Calls Try.prog 75 #[.int .i64 a0, .int .i64 a1] w fun e w' => ∃ v0_ v1_ : Value, e = .returned (.tuple #[.agg #[v0_, v1_], .bool r3]) ∧ Kd.R (Kd.int .i64) 3 w' w.heap.size (fun k_ => some k_ ≠ (v1_ : Value).ownBlock) v0_ r1 ∧ Kd.R (Kd.int .i64) 3 w' w.heap.size (fun k_ => some k_ ≠ (v0_ : Value).ownBlock) v1_ r2 ∧ Below w.heap.size w w' := by
  have hu27 := Try.underlying27
  have HB := Aside0.mk (Below.refl w.heap.size w)
  have H := h
  unfold spec_EllOf.f at H
  clear h
  have HC3 := Aside0.mk H
  clear H
  go_enter Try.func75, Try.ntmps75
  go_upto_region 1 with (first | ((with_reducible refine gate_dst (N := 4) rfl ?_); refine bx_ 4 #[.slice none 0 0, .slice none 0 0] 27 ?_; intro gb824 hg w4 hbox hb; have BK824 := Aside0.mk hbox; have GW824 := gw_ w hg; have GE824 := GW824; replace HB := b1_ hb; clear hb hbox hg))
  (try simp only [Act.put, List.setIfInBounds_toArray, List.set_cons_zero, List.set_cons_succ])
  go_cut [24] (fun v24 wc => ∃ (kq : Nat) (x24_2 : Bool), v24 = .bool x24_2 ∧ Aside0 (spec_EllOf.j0 kq a0 a1 x24_2 = some (r1, r2, r3)) ∧ Aside0 (kq ≤ k) ∧ Aside0 (wc.heap[gb824]? = some (.cells #[(.slice none 0 0), (.slice none 0 0)] 27 (0, 0))) ∧ Aside0 (Below w.heap.size w wc))
  case first =>
    have H := HC3.out
    clear HC3
    obtain ⟨t825, A5, H⟩ := bi_ H
    by_cases c6 : t825 = true
    · subst c6
      rw [if_pos rfl] at H
      obtain ⟨t826, A7, H⟩ := bi_ H
      by_cases c8 : t826 = true
      · subst c8
        rw [if_pos rfl] at H
        have H' := Aside0.mk H
        clear H
        go_wp2_with (first | ((with_reducible refine gate_callee (f := 115) rfl ?_); refine gL_ (some 11) Try.func115 #[.int .i64 a0, .int .i64 1, .int .i64 24] rfl qa_ ?_; (with_reducible refine (spec_l01In.calls a0 1 24 true _ A5.out).mono ?_); rintro e w' ⟨rfl, ⟨nd, rfl⟩⟩; refine ⟨_, rfl, ?_⟩) | (go_at_call 115; (with_reducible refine (spec_l01In.calls a1 1 24 true _ A7.out).mono ?_); rintro e w' ⟨rfl, ⟨nd, rfl⟩⟩))
        go_meet
        case rel => exact ⟨_, (decide ((wrap64 ((wrap64 (a0 + a1)) - 1)) > 24)), qc_, H', ⟨qd_⟩, ⟨(kk_ BK824)⟩, ⟨hB_⟩⟩
      · replace c8 := Bool.eq_false_iff.mpr c8
        subst c8
        have H1 : (spec_EllOf.j0 k a0 a1 true) = some (r1, r2, r3) := by rw [if_neg (show ¬ (false = true) by decide)] at H; exact H
        clear H
        have H := H1
        clear H1
        have H' := Aside0.mk H
        clear H
        go_wp2_with (first | ((with_reducible refine gate_callee (f := 115) rfl ?_); refine gL_ (some 11) Try.func115 #[.int .i64 a0, .int .i64 1, .int .i64 24] rfl qa_ ?_; (with_reducible refine (spec_l01In.calls a0 1 24 true _ A5.out).mono ?_); rintro e w' ⟨rfl, ⟨nd, rfl⟩⟩; refine ⟨_, rfl, ?_⟩) | (go_at_call 115; (with_reducible refine (spec_l01In.calls a1 1 24 false _ A7.out).mono ?_); rintro e w' ⟨rfl, ⟨nd, rfl⟩⟩))
        go_meet
        case rel => exact ⟨_, (true), qc_, H', ⟨qd_⟩, ⟨(kk_ BK824)⟩, ⟨hB_⟩⟩
    · replace c6 := Bool.eq_false_iff.mpr c6
      subst c6
      have H1 : (spec_EllOf.j0 k a0 a1 true) = some (r1, r2, r3) := by rw [if_neg (show ¬ (false = true) by decide)] at H; exact H
      clear H
      have H := H1
      clear H1
      have H' := Aside0.mk H
      clear H
      go_wp2_with (first | ((with_reducible refine gate_callee (f := 115) rfl ?_); refine gL_ (some 11) Try.func115 #[.int .i64 a0, .int .i64 1, .int .i64 24] rfl qa_ ?_; (with_reducible refine (spec_l01In.calls a0 1 24 false _ A5.out).mono ?_); rintro e w' ⟨rfl, ⟨nd, rfl⟩⟩; refine ⟨_, rfl, ?_⟩))
      go_meet
      case rel => exact ⟨_, (true), qc_, H', ⟨qd_⟩, ⟨(kk_ BK824)⟩, ⟨hB_⟩⟩
  case rest =>
    clear HC3
    obtain ⟨kq, x24_2, rfl, HA, HJ2, BK824, HB⟩ := hcut
    cases kq with
    | zero => exact absurd HA.out (by simp [spec_EllOf.j0])
    | succ kj2 =>
      have H := HA.out
      clear HA
      simp only [spec_EllOf.j0] at H
      by_cases c9 : x24_2 = true
      · subst c9
        rw [if_pos rfl] at H
        simp only [Option.some.injEq, Prod.mk.injEq] at H
        obtain ⟨rfl, rfl, rfl⟩ := H
        obtain ⟨hcz10_0, hcz10_1, hfz10_0, hfz10_1⟩ := c2_ BK824
        go_wp2
        refine bodyPost_ret (results_ct rfl _ _ gb824 27 #[.slice none 0 0, .slice none 0 0] (0, 0) _ rfl qp_ Try.underlying27 rfl (by kernel_rfl)) rfl ?_
        exact ⟨_, _, qb_, by first | exact Kd.R_nil _ _ _ _ _ | exact Kd.N_nil _ _ _ _ _ | exact Kd.V_nil _ _ _ _ _ | exact Kd.Q_nil _ _ _ _ _ | exact Kd.S_nil _ _ _ _ _, by first | exact Kd.R_nil _ _ _ _ _ | exact Kd.N_nil _ _ _ _ _ | exact Kd.V_nil _ _ _ _ _ | exact Kd.Q_nil _ _ _ _ _ | exact Kd.S_nil _ _ _ _ _, hB_⟩
      · replace c9 := Bool.eq_false_iff.mpr c9
        subst c9
        have H1 : ((spec_l02Identity.f kj2 (wrap64 ((wrap64 (a0 + a1)) - 1))).bind fun t827 => ((spec_l02Identity.f kj2 (wrap64 ((wrap64 (a0 + a1)) - 1))).bind fun t830 => (spec_EllOf.l0 kj2 a0 a1 (wrap64 ((wrap64 (a0 + a1)) - 1)) 0 t827 t830))) = some (r1, r2, r3) := by rw [if_neg (show ¬ (false = true) by decide)] at H; exact H
        clear H
        have H := H1
        clear H1
        obtain ⟨t827, A11, H⟩ := bi_ H
        obtain ⟨t830, A12, H⟩ := bi_ H
        have H' := Aside0.mk H
        clear H
        go_wp2_with (first | ((with_reducible refine gate_callee (f := 103) rfl ?_); refine gL_ (some 31) Try.func103 #[.int .i64 (wrap64 ((wrap64 (a0 + a1)) - 1))] rfl qa_ ?_; (with_reducible refine (spec_l02Identity.calls kj2 (wrap64 ((wrap64 (a0 + a1)) - 1)) t827 _ A11.out).mono ?_); rintro e w13 ⟨v828, rfl, ho0, hb⟩; refine ⟨_, rfl, ?_⟩; have HO829 := rl_ w ho0; replace BK824 := bb_ BK824 hb; replace HB := b1_ hb; clear hb ho0) | ((with_reducible refine gate_callee (f := 103) rfl ?_); refine gL_ (some 33) Try.func103 #[.int .i64 (wrap64 ((wrap64 (a0 + a1)) - 1))] rfl qa_ ?_; (with_reducible refine (spec_l02Identity.calls kj2 (wrap64 ((wrap64 (a0 + a1)) - 1)) t830 _ A12.out).mono ?_); rintro e w14 ⟨v831, rfl, ho0, hb⟩; refine ⟨_, rfl, ?_⟩; have HO832 := Aside0.mk (Kd.R_lower (Kd.R_new' ho0 (Kd.R_lt (rr_ HO829))) (below_size hB_)); replace HO829 := Aside0.mk (Kd.R_elder' (rr_ HO829) (Kd.R_base ho0) hb); replace BK824 := bb_ BK824 hb; replace HB := b1_ hb; clear hb ho0; obtain ⟨Ao15, co15, eo15⟩ := Kd.R_slice HO832.out; subst eo15; obtain ⟨Ao16, co16, eo16⟩ := Kd.R_slice HO829.out; subst eo16) | ((with_reducible refine gate_dst (N := 7) rfl ?_); refine bx_ 7 #[.slice none 0 0, .slice none 0 0] 27 ?_; intro gb833 hg w17 hbox hb; replace HO829 := rb_ HO829 hb; replace HO832 := rb_ HO832 hb; have BK833 := Aside0.mk hbox; have GW833 := gw_ w hg; have GE833 := GW833; replace HB := b1_ hb; have NB824_833 := gN_ BK824 hg; have NB833_824 := gP_ BK824 hg; replace BK824 := bb_ BK824 hb; clear hb hbox hg; have hnb18 := NB833_824.out; have hnc18 := NB824_833.out; obtain ⟨hcz19_0, hcz19_1, hfz19_0, hfz19_1⟩ := c2_ BK833))
        go_loopg [8] kj2 (fun kq v8 w' => ∃ (x8_2 : Int) (x834000_2 : List Int) (x834001_2 : List Int) (u834000 : Value) (u834001 : Value), v8 = .int .i64 x8_2 ∧ Aside0 (spec_EllOf.l0 kq a0 a1 (wrap64 ((wrap64 (a0 + a1)) - 1)) x8_2 x834000_2 x834001_2 = some (r1, r2, r3)) ∧ Aside0 (kq ≤ kj2) ∧ Aside0 (Kd.R (Kd.int .i64) 3 w' w.heap.size (fun k_ => some k_ ≠ (u834001 : Value).ownBlock) u834000 x834000_2) ∧ Aside0 (Kd.R (Kd.int .i64) 3 w' w.heap.size (fun k_ => some k_ ≠ (u834000 : Value).ownBlock) u834001 x834001_2) ∧ Aside0 (w'.heap[gb824]? = some (.cells #[(.slice none 0 0), (.slice none 0 0)] 27 (0, 0))) ∧ Aside0 (w'.heap[gb833]? = some (.cells #[u834000, u834001] 27 (0, 0))) ∧ Aside0 (Below w.heap.size w w'))
        case atStart => exact ⟨(0), (t827), (t830), (.slice Ao16 t827.length co16), (.slice Ao15 t830.length co15), qc_, H', ⟨Nat.le_refl _⟩, ⟨(rw_ (Kd.R_mono (fa_ HO829 BK833) (fun _ hk => hk.2)))⟩, ⟨(rw_ (Kd.R_mono (fa_ HO832 BK833) (fun _ hk => hk.2)))⟩, ⟨by (with_reducible repeat (first | refine blk_drewN ?_ _ | refine blk_drew ?_ | refine blk_alloc ?_ _)); refine blk_far ?_ NB824_833.out _; (with_reducible repeat (first | refine blk_drewN ?_ _ | refine blk_drew ?_ | refine blk_alloc ?_ _)); refine blk_far ?_ NB824_833.out _; (with_reducible repeat (first | refine blk_drewN ?_ _ | refine blk_drew ?_ | refine blk_alloc ?_ _)); exact BK824.out⟩, ⟨qp_⟩, ⟨hB_⟩⟩
        case round =>
          clear H'
          obtain ⟨x8_2, x834000_2, x834001_2, u834000, u834001, rfl, HA, HK2, HO_834000, HO_834001, BK824, BK833, HB⟩ := hrel
          cases gk with
          | zero => exact absurd HA.out (by simp [spec_EllOf.l0])
          | succ k2 =>
            have H := HA.out
            clear HA
            simp only [spec_EllOf.l0] at H
            by_cases c20 : x8_2 < a0
            · rw [if_pos c20] at H
              have c20b0 := decide_eq_true c20
              clear c20
              by_cases c21 : a0 = 0
              · rw [if_pos c21] at H
                exact absurd H (by simp)
              · rw [if_neg c21] at H
                have c21b0 : (a0 == 0) = false := beq_eq_false_iff_ne.mpr c21
                have c21b1 : (a0 != 0) = true := bne_iff_ne.mpr c21
                have c22 := cp_ H
                replace H := ca_ H
                have c22b0 := decide_eq_true c22
                clear c22
                have c23 := cp_ H
                replace H := ca_ H
                have c23b0 := decide_eq_true c23
                clear c23
                obtain ⟨y834, hy834⟩ : ∃ y_ : List Int, y_ = (x834000_2.set (x8_2 : Int).toNat (Int.tmod (wrap64 (x8_2 + 1)) a0)) := ⟨_, rfl⟩
                replace H : (spec_EllOf.l0 k2 a0 a1 (wrap64 ((wrap64 (a0 + a1)) - 1)) (wrap64 (x8_2 + 1)) y834 x834001_2) = some (r1, r2, r3) := by first | (rw [hy834]; exact H) | exact H
                have Ny834 := Aside0.mk hy834
                clear hy834
                have H' := Aside0.mk H
                clear H
                try go_wp2
                replace HO_834000 := Aside0.mk (Kd.R_drew HO_834000.out)
                replace HO_834001 := Aside0.mk (Kd.R_drew HO_834001.out)
                replace BK824 := Aside0.mk (blk_drew BK824.out)
                replace BK833 := Aside0.mk (blk_drew BK833.out)
                replace HB := Aside0.mk (below_drew1 HB.out)
                have p24 : 0 ≤ (x8_2 : Int) := of_decide_eq_true qe_
                have q24 : (x8_2 : Int) < ((x834000_2.length : Int) : Int) := of_decide_eq_true qe_
                obtain ⟨go24, co24, eo24, gb24, gl24, cl24, HG24⟩ := Kd.R_form HO_834000.out (by omega)
                (first | cases eo24 | (injection eo24 with ea_ en_ ec_; (first | subst ea_ | (injection ea_ with ea_; subst ea_)); subst ec_; clear en_))
                have GB24 := Aside0.mk gb24
                have GG24 := Aside0.mk HG24
                clear gb24 gl24 HG24
                obtain ⟨hx24_0, hf24_0⟩ := Kd.R_celln 0 HO_834000.out (x8_2 : Int) p24 q24
                replace p24 := eq_true p24
                replace q24 := eq_true q24
                have HP26 := Kd.R_putn HO_834000.out (x8_2 : Int) (Int.tmod (wrap64 (x8_2 + 1)) a0)
                rw [← Ny834.out] at HP26
                have HQ26 := Aside0.mk HP26
                clear HP26
                refine start_ (n := 9) (S := fun w' => w'.cell? ⟨gb833, 0, none⟩ = some (.slice (some ⟨go24, 0, none⟩) x834000_2.length co24) ∧ w'.cell? ⟨gb833, 1, none⟩ = some (u834001)) (ds := [8]) (bl_ 9 0) (by kernel_rfl) rfl (by kernel_rfl) ⟨cz0_ BK833, cz1_ BK833⟩ (fun hHeld => ?_); refine with_tabW spec_EllOf.tab8 spec_EllOf.bits8 (fun HT_ HW_ => ?_)
                generalize wr.drew = w25 at HO_834000 HO_834001 BK824 BK833 HB GG24 HQ26 hf24_0 hx24_0 hHeld ⊢
                refine pu_ 0 (some 40) (bl_ 9 1) HT_ ?_
                refine pu_ 2 (some 42) (bl_ 9 5) HT_ ?_
                refine pu_ 3 (some 43) (bl_ 9 13) HT_ ?_
                refine pu_ 4 (some 44) (bl_ 9 29) HT_ ?_
                refine pu_ 5 (some 45) (bl_ 9 61) HT_ ?_
                refine pu_ 6 (some 46) (bl_ 9 125) HT_ ?_
                refine ta_ 1 (some 41) (bl_ 9 127) HT_ HW_ hHeld ?_
                refine pu_ 7 (some 47) (bl_ 9 255) HT_ ?_
                refine last_ (i := 8) (N := none) (bl_ 9 511) rfl rfl (one_of HT_.out (by kernel_rfl)) (by decide) (fun K hK => ?_)
                refine skip_ (w1 := ?_) (by rfl) rfl ?_ ?_
                rotate_left
                · go_simp
                  rfl
                refine hK.out _ _ ?_
                clear hK K
                refine done_ (done_of HT_.out (by kernel_rfl)) ?_
                try go_wp2
                go_roundg k2
                case measure => have := HJ2.out; have := HK2.out; omega
                case rel => exact ⟨(wrap64 (x8_2 + 1)), (y834), (x834001_2), (.slice (some ⟨go24, 0, none⟩) x834000_2.length co24), (u834001), qc_, H', ⟨by have := HJ2.out; have := HK2.out; omega⟩, ⟨(rr_ HQ26)⟩, ⟨(rw_ (Kd.R_mono (Kd.R_far (p := ⟨go24, (x8_2 : Int).toNat, none⟩) (Kd.R_mono HO_834001.out (fun k_ hk => (⟨hk, fun e_ => hk (by rw [e_]; rfl)⟩ : _ ∧ k_ ≠ go24))) (fun _ hk => hk.2) (.int .i64 (Int.tmod (wrap64 (x8_2 + 1)) a0))) (fun _ hk => hk.1)))⟩, ⟨by (with_reducible repeat (first | refine blk_drewN ?_ _ | refine blk_drew ?_ | refine blk_alloc ?_ _)); refine blk_far ?_ (by have h_ := Kd.R_ne HO_834000.out BK824.out (by decide); intro e_; exact h_ (by rw [e_]; rfl)) _; (with_reducible repeat (first | refine blk_drewN ?_ _ | refine blk_drew ?_ | refine blk_alloc ?_ _)); exact BK824.out⟩, ⟨by (with_reducible repeat (first | refine blk_drewN ?_ _ | refine blk_drew ?_ | refine blk_alloc ?_ _)); refine blk_far ?_ (by have h_ := Kd.R_ne HO_834000.out BK833.out (by decide); intro e_; exact h_ (by rw [e_]; rfl)) _; (with_reducible repeat (first | refine blk_drewN ?_ _ | refine blk_drew ?_ | refine blk_alloc ?_ _)); exact BK833.out⟩, ⟨by repeat (first | (with_reducible first | exact HB.out | apply below_alloc | apply pw_below_drewN | apply below_drew1 | refine below_set ?_ GB24.out | refine below_set ?_ GE824.out | refine below_set ?_ GE833.out) | exact HB.out)⟩⟩
            · rw [if_neg c20] at H
              have c20b0 := decide_eq_false c20
              clear c20
              by_cases c27 : a1 > 1
              · rw [if_pos c27] at H
                have c27b0 : decide (1 < a1) = true := decide_eq_true c27
                clear c27
                have c28 := cp_ H
                replace H := ca_ H
                have c28b0 := decide_eq_true c28
                have c28b1 : decide (0 < x834001_2.length) = true := decide_eq_true (by omega)
                clear c28
                obtain ⟨y835, hy835⟩ : ∃ y_ : List Int, y_ = (x834001_2.set (0 : Int).toNat a0) := ⟨_, rfl⟩
                replace H : (spec_EllOf.l1 k2 (wrap64 ((wrap64 (a0 + a1)) - 1)) a0 x834000_2 y835) = some (r1, r2, r3) := by first | (rw [hy835]; exact H) | exact H
                have Ny835 := Aside0.mk hy835
                clear hy835
                have H' := Aside0.mk H
                clear H
                have hnb30 := NB833_824.out
                have hnc30 := NB824_833.out
                obtain ⟨hcz31_0, hcz31_1, hfz31_0, hfz31_1⟩ := c2_ BK833
                have p29 : 0 ≤ (0 : Int) := (by omega)
                have q29 : (0 : Int) < ((x834001_2.length : Int) : Int) := of_decide_eq_true qe_
                have qi29 : (0 < x834001_2.length) = True := eq_true (by omega)
                obtain ⟨go29, co29, eo29, gb29, gl29, cl29, HG29⟩ := Kd.R_form HO_834001.out (by omega)
                (first | cases eo29 | (injection eo29 with ea_ en_ ec_; (first | subst ea_ | (injection ea_ with ea_; subst ea_)); subst ec_; clear en_))
                have GB29 := Aside0.mk gb29
                have GG29 := Aside0.mk HG29
                clear gb29 gl29 HG29
                obtain ⟨hx29_0, hf29_0⟩ := Kd.R_celln 0 HO_834001.out (0 : Int) p29 q29
                (try rw [show ((0 : Int)).toNat = 0 from rfl] at hx29_0)
                (try simp only [Nat.reduceMul, Nat.zero_mul, Nat.zero_add, Nat.reduceAdd] at hx29_0)
                (try rw [show ((0 : Int)).toNat = 0 from rfl] at hf29_0)
                (try simp only [Nat.reduceMul, Nat.zero_mul, Nat.zero_add, Nat.reduceAdd] at hf29_0)
                replace p29 := eq_true p29
                replace q29 := eq_true q29
                have HP32 := Kd.R_putg HO_834001.out (0 : Int) a0
                go_wp2_with (first | ((with_reducible refine gate_store (t := 3) (p := 53) rfl ?_); refine store_event (t := 3) (p := 53) (v := ?vo_w33) (w1 := (wr.setCell ⟨go29, (0 : Int).toNat, none⟩ (.int .i64 a0))) ?hg ?ho ?hn ?hr ?_; (case ho => rfl); (case hg => rfl); (case hn => rfl); (case hr => first | (go_simp; done) | (go_simp; rfl)); intro w33 hw; have hg : wr.grownBy w33 (some go29) := (by rw [hw]; exact HP32.2); have hp_ : Kd.R (Kd.int .i64) 3 w33 w.heap.size (fun k_ => some k_ ≠ (u834000 : Value).ownBlock) (.slice (some ⟨go29, 0, none⟩) x834001_2.length co29) y835 := (by rw [hw, Ny835.out]; exact HP32.1); clear HP32; replace HO_834000 := Aside0.mk (Kd.R_after (v := (.slice (some ⟨go29, 0, none⟩) x834001_2.length co29)) (v1 := (.slice (some ⟨go29, 0, none⟩) x834001_2.length co29)) (ok := (fun _ => True)) (rw_ (Kd.R_mono HO_834000.out (fun _ hk => ⟨trivial, hk⟩))) hg (.inl rfl)); replace BK824 := Aside0.mk (blk_grown (kk_ BK824) hg (Kd.R_ne HO_834001.out BK824.out (by decide))); replace BK833 := Aside0.mk (blk_grown (kk_ BK833) hg (Kd.R_ne HO_834001.out BK833.out (by decide))); replace HO_834001 := Aside0.mk (hp_); replace HB := Aside0.mk ((by rw [hw]; exact below_set (HB.out) GB29.out : Below w.heap.size w w33)); clear hg hw hp_))
                go_loopg [9] k2 (fun kq v9 w' => ∃ (x9_3 : Int) (x834000_3 : List Int) (x834001_3 : List Int) (u834000 : Value) (u834001 : Value), v9 = .int .i64 x9_3 ∧ Aside0 (spec_EllOf.l1 kq (wrap64 ((wrap64 (a0 + a1)) - 1)) x9_3 x834000_3 x834001_3 = some (r1, r2, r3)) ∧ Aside0 (kq ≤ k2) ∧ Aside0 (Kd.R (Kd.int .i64) 3 w' w.heap.size (fun k_ => some k_ ≠ (u834001 : Value).ownBlock) u834000 x834000_3) ∧ Aside0 (Kd.R (Kd.int .i64) 3 w' w.heap.size (fun k_ => some k_ ≠ (u834000 : Value).ownBlock) u834001 x834001_3) ∧ Aside0 (w'.heap[gb824]? = some (.cells #[(.slice none 0 0), (.slice none 0 0)] 27 (0, 0))) ∧ Aside0 (w'.heap[gb833]? = some (.cells #[u834000, u834001] 27 (0, 0))) ∧ Aside0 (Below w.heap.size w w'))
                case atStart => exact ⟨(a0), (x834000_2), (y835), (u834000), (.slice (some ⟨go29, 0, none⟩) x834001_2.length co29), qc_, H', ⟨Nat.le_refl _⟩, ⟨(rw_ (Kd.R_mono HO_834000.out (fun _ hk => hk.2)))⟩, ⟨(rr_ HO_834001)⟩, ⟨(kk_ BK824)⟩, ⟨(kk_ BK833)⟩, ⟨hB_⟩⟩
                case round =>
                  clear H'
                  obtain ⟨x9_3, x834000_3, x834001_3, u834000, u834001, rfl, HA, HK3, HO_834000, HO_834001, BK824, BK833, HB⟩ := hrel
                  cases gk with
                  | zero => exact absurd HA.out (by simp [spec_EllOf.l1])
                  | succ k3 =>
                    have H := HA.out
                    clear HA
                    simp only [spec_EllOf.l1] at H
                    by_cases c34 : x9_3 < (wrap64 ((wrap64 (a0 + a1)) - 1))
                    · rw [if_pos c34] at H
                      have c34b0 := decide_eq_true c34
                      clear c34
                      by_cases c35 : (wrap64 ((wrap64 (a0 + a1)) - 1)) = 0
                      · rw [if_pos c35] at H
                        exact absurd H (by simp)
                      · rw [if_neg c35] at H
                        have c35b0 : ((wrap64 ((wrap64 (a0 + a1)) - 1)) == 0) = false := beq_eq_false_iff_ne.mpr c35
                        have c35b1 : ((wrap64 ((wrap64 (a0 + a1)) - 1)) != 0) = true := bne_iff_ne.mpr c35
                        have c36 := cp_ H
                        replace H := ca_ H
                        have c36b0 := decide_eq_true c36
                        clear c36
                        have c37 := cp_ H
                        replace H := ca_ H
                        have c37b0 := decide_eq_true c37
                        clear c37
                        obtain ⟨y836, hy836⟩ : ∃ y_ : List Int, y_ = (x834001_3.set (x9_3 : Int).toNat (Int.tmod (wrap64 (x9_3 + 1)) (wrap64 ((wrap64 (a0 + a1)) - 1)))) := ⟨_, rfl⟩
                        replace H : (spec_EllOf.l1 k3 (wrap64 ((wrap64 (a0 + a1)) - 1)) (wrap64 (x9_3 + 1)) x834000_3 y836) = some (r1, r2, r3) := by first | (rw [hy836]; exact H) | exact H
                        have Ny836 := Aside0.mk hy836
                        clear hy836
                        have H' := Aside0.mk H
                        clear H
                        try go_wp2
                        replace HO_834000 := Aside0.mk (Kd.R_drew HO_834000.out)
                        replace HO_834001 := Aside0.mk (Kd.R_drew HO_834001.out)
                        replace BK824 := Aside0.mk (blk_drew BK824.out)
                        replace BK833 := Aside0.mk (blk_drew BK833.out)
                        replace HB := Aside0.mk (below_drew1 HB.out)
                        have p38 : 0 ≤ (x9_3 : Int) := of_decide_eq_true qe_
                        have q38 : (x9_3 : Int) < ((x834001_3.length : Int) : Int) := of_decide_eq_true qe_
                        obtain ⟨go38, co38, eo38, gb38, gl38, cl38, HG38⟩ := Kd.R_form HO_834001.out (by omega)
                        (first | cases eo38 | (injection eo38 with ea_ en_ ec_; (first | subst ea_ | (injection ea_ with ea_; subst ea_)); subst ec_; clear en_))
                        have GB38 := Aside0.mk gb38
                        have GG38 := Aside0.mk HG38
                        clear gb38 gl38 HG38
                        obtain ⟨hx38_0, hf38_0⟩ := Kd.R_celln 0 HO_834001.out (x9_3 : Int) p38 q38
                        replace p38 := eq_true p38
                        replace q38 := eq_true q38
                        have HP40 := Kd.R_putn HO_834001.out (x9_3 : Int) (Int.tmod (wrap64 (x9_3 + 1)) (wrap64 ((wrap64 (a0 + a1)) - 1)))
                        rw [← Ny836.out] at HP40
                        have HQ40 := Aside0.mk HP40
                        clear HP40
                        refine start_ (n := 9) (S := fun w' => w'.cell? ⟨gb833, 0, none⟩ = some (u834000) ∧ w'.cell? ⟨gb833, 1, none⟩ = some (.slice (some ⟨go38, 0, none⟩) x834001_3.length co38)) (ds := [8]) (bl_ 9 0) (by kernel_rfl) rfl (by kernel_rfl) ⟨cz0_ BK833, cz1_ BK833⟩ (fun hHeld => ?_); refine with_tabW spec_EllOf.tab14 spec_EllOf.bits14 (fun HT_ HW_ => ?_)
                        generalize wr.drew = w39 at HO_834000 HO_834001 BK824 BK833 HB GG38 HQ40 hf38_0 hx38_0 hHeld ⊢
                        refine pu_ 0 (some 60) (bl_ 9 1) HT_ ?_
                        refine pu_ 2 (some 62) (bl_ 9 5) HT_ ?_
                        refine pu_ 3 (some 63) (bl_ 9 13) HT_ ?_
                        refine pu_ 4 (some 64) (bl_ 9 29) HT_ ?_
                        refine pu_ 5 (some 65) (bl_ 9 61) HT_ ?_
                        refine pu_ 6 (some 66) (bl_ 9 125) HT_ ?_
                        refine ta_ 1 (some 61) (bl_ 9 127) HT_ HW_ hHeld ?_
                        refine pu_ 7 (some 67) (bl_ 9 255) HT_ ?_
                        refine last_ (i := 8) (N := none) (bl_ 9 511) rfl rfl (one_of HT_.out (by kernel_rfl)) (by decide) (fun K hK => ?_)
                        refine skip_ (w1 := ?_) (by rfl) rfl ?_ ?_
                        rotate_left
                        · go_simp
                          rfl
                        refine hK.out _ _ ?_
                        clear hK K
                        refine done_ (done_of HT_.out (by kernel_rfl)) ?_
                        try go_wp2
                        go_roundg k3
                        case measure => have := HJ2.out; have := HK2.out; have := HK3.out; omega
                        case rel => exact ⟨(wrap64 (x9_3 + 1)), (x834000_3), (y836), (u834000), (.slice (some ⟨go38, 0, none⟩) x834001_3.length co38), qc_, H', ⟨by have := HJ2.out; have := HK2.out; have := HK3.out; omega⟩, ⟨(rw_ (Kd.R_mono (Kd.R_far (p := ⟨go38, (x9_3 : Int).toNat, none⟩) (Kd.R_mono HO_834000.out (fun k_ hk => (⟨hk, fun e_ => hk (by rw [e_]; rfl)⟩ : _ ∧ k_ ≠ go38))) (fun _ hk => hk.2) (.int .i64 (Int.tmod (wrap64 (x9_3 + 1)) (wrap64 ((wrap64 (a0 + a1)) - 1))))) (fun _ hk => hk.1)))⟩, ⟨(rr_ HQ40)⟩, ⟨by (with_reducible repeat (first | refine blk_drewN ?_ _ | refine blk_drew ?_ | refine blk_alloc ?_ _)); refine blk_far ?_ (by have h_ := Kd.R_ne HO_834001.out BK824.out (by decide); intro e_; exact h_ (by rw [e_]; rfl)) _; (with_reducible repeat (first | refine blk_drewN ?_ _ | refine blk_drew ?_ | refine blk_alloc ?_ _)); exact BK824.out⟩, ⟨by (with_reducible repeat (first | refine blk_drewN ?_ _ | refine blk_drew ?_ | refine blk_alloc ?_ _)); refine blk_far ?_ (by have h_ := Kd.R_ne HO_834001.out BK833.out (by decide); intro e_; exact h_ (by rw [e_]; rfl)) _; (with_reducible repeat (first | refine blk_drewN ?_ _ | refine blk_drew ?_ | refine blk_alloc ?_ _)); exact BK833.out⟩, ⟨by repeat (first | (with_reducible first | exact HB.out | apply below_alloc | apply pw_below_drewN | apply below_drew1 | refine below_set ?_ GB38.out | refine below_set ?_ GE824.out | refine below_set ?_ GE833.out) | exact HB.out)⟩⟩
                    · rw [if_neg c34] at H
                      have c34b0 := decide_eq_false c34
                      clear c34
                      simp only [Option.some.injEq, Prod.mk.injEq] at H
                      obtain ⟨rfl, rfl, rfl⟩ := H
                      have hnb41 := NB833_824.out
                      have hnc41 := NB824_833.out
                      obtain ⟨hcz42_0, hcz42_1, hfz42_0, hfz42_1⟩ := c2_ BK833
                      obtain ⟨Ao43, co43, eo43⟩ := Kd.R_slice HO_834000.out
                      subst eo43
                      obtain ⟨hcz44_0, hcz44_1, hfz44_0, hfz44_1⟩ := c2_ BK824
                      obtain ⟨Ao45, co45, eo45⟩ := Kd.R_slice HO_834001.out
                      subst eo45
                      go_wp2
                      refine bodyPost_ret (results_ct rfl _ _ gb824 27 #[.slice Ao43 x834000_3.length co43, .slice Ao45 x834001_3.length co45] (0, 0) _ rfl qp_ Try.underlying27 rfl (by kernel_rfl)) rfl ?_
                      exact ⟨_, _, qb_, (rw_ (fa_ HO_834000 BK824)), (rw_ (fa_ HO_834001 BK824)), hB_⟩
              · rw [if_neg c27] at H
                have c27b0 : decide (1 < a1) = false := decide_eq_false c27
                clear c27
                simp only [Option.some.injEq, Prod.mk.injEq] at H
                obtain ⟨rfl, rfl, rfl⟩ := H
                have hnb46 := NB833_824.out
                have hnc46 := NB824_833.out
                obtain ⟨hcz47_0, hcz47_1, hfz47_0, hfz47_1⟩ := c2_ BK833
                obtain ⟨Ao48, co48, eo48⟩ := Kd.R_slice HO_834000.out
                subst eo48
                obtain ⟨hcz49_0, hcz49_1, hfz49_0, hfz49_1⟩ := c2_ BK824
                obtain ⟨Ao50, co50, eo50⟩ := Kd.R_slice HO_834001.out
                subst eo50
                go_wp2
                refine bodyPost_ret (results_ct rfl _ _ gb824 27 #[.slice Ao48 x834000_2.length co48, .slice Ao50 x834001_2.length co50] (0, 0) _ rfl qp_ Try.underlying27 rfl (by kernel_rfl)) rfl ?_
                exact ⟨_, _, qb_, (rw_ (fa_ HO_834000 BK824)), (rw_ (fa_ HO_834001 BK824)), hB_⟩
end Go.Proofs.Ytbdnellgioimbaa.A
end
section
namespace Go.Proofs.Ytbdnellgioimbaa.A
open Go.RowKit Go.Proofs.YtbdnellgioimbaaW.PrintWords Go.Proofs.YtbdnellgioimbaaW.PrintLast Go.Proofs.YtbdnellgioimbaaW.PrintMore
attribute [local go_sem] max2_int min2_int max_two min_two max_three min_three max_four min_four
set_option linter.unusedVariables false
set_option linter.unusedSimpArgs false
def spec_l02Has.l0 : Nat → Int → List Int → Int → Int → Option (Bool)
  | 0, _, _, _, _ => none
  | k + 1, x1, x7, x8, x9 => if x9 < x8 then (if 0 ≤ x9 then (if x9 < (x7.length : Int) then (if (rd x7 x9) = x1 then (some true) else (spec_l02Has.l0 k x1 x7 x8 (wrap64 (x9 + 1)))) else (none)) else (none)) else (some false)
def spec_l02Has.f (k : Nat) (l0 : List Int) (a1 : Int) : Option (Bool) := spec_l02Has.l0 k a1 l0 (l0.length : Int) 0
theorem spec_l02Has.mono_l : ∀ k, (∀ y0 y1 y2 y3, LeO (spec_l02Has.l0 k y0 y1 y2 y3) (spec_l02Has.l0 (k + 1) y0 y1 y2 y3))
  | 0 => fun _ _ _ _ r h => by simp [spec_l02Has.l0] at h
  | k + 1 => by
    have ih0 := spec_l02Has.mono_l k
    · intro y0 y1 y2 y3
      unfold spec_l02Has.l0
      repeat' first|exact ih0 _ _ _ _|exact lo_|refine LeO.ite ?_ ?_|refine LeO.bind ?_ (fun _ => ?_)
theorem spec_l02Has.mono : ∀ a0 a1 k, LeO (spec_l02Has.f k a0 a1) (spec_l02Has.f (k + 1) a0 a1) := by
  intro a0 a1 k
  have ih0 := spec_l02Has.mono_l k
  unfold spec_l02Has.f
  repeat' first|exact ih0 _ _ _ _|exact lo_|refine LeO.ite ?_ ?_|refine LeO.bind ?_ (fun _ => ?_)
set_option maxHeartbeats 8000000 in
set_option maxRecDepth 100000 in
theorem spec_l02Has.calls (k : Nat) (A0 : Option Addr) (c0 : Nat) (l0 : List Int) (a1 : Int) (r : Bool) (w : World) (hr0 : Kd.C (Kd.int .i64) w A0 l0.length l0) (hc0 : l0.length ≤ c0) (h : spec_l02Has.f k l0 a1 = some r) :
    Calls Try.prog 155 #[.slice A0 l0.length c0, .int .i64 a1] w fun e w' => e = .returned (.bool r) ∧ Drawn0 w w' := by
  have HR0 := Aside0.mk hr0
  have HC0 := Aside0.mk hc0
  clear hr0 hc0
  have H := h
  unfold spec_l02Has.f at H
  clear h
  have H' := Aside0.mk H
  clear H
  go_enter Try.func155, Try.ntmps155
  go_wp2
  go_loopg [9] k (fun kq v9 w' => ∃ (x9_1 : Int), v9 = .int .i64 x9_1 ∧ Aside0 (spec_l02Has.l0 kq a1 l0 (l0.length : Int) x9_1 = some r) ∧ Aside0 (kq ≤ k) ∧ Drawn0 w w')
  case atStart => exact ⟨(0), qc_, H', ⟨Nat.le_refl _⟩, by repeat (first | exact Drawn0.refl _ | apply Drawn0.step)⟩
  case round =>
    clear H'
    obtain ⟨x9_1, rfl, HA, HK1, ⟨m1, rfl⟩⟩ := hrel
    cases gk with
    | zero => exact absurd HA.out (by simp [spec_l02Has.l0])
    | succ k1 =>
      have H := HA.out
      clear HA
      simp only [spec_l02Has.l0] at H
      by_cases c3 : x9_1 < (l0.length : Int)
      · rw [if_pos c3] at H
        have c3b0 := decide_eq_true c3
        clear c3
        have c4 := cp_ H
        replace H := ca_ H
        have c4b0 := decide_eq_true c4
        clear c4
        have c5 := cp_ H
        replace H := ca_ H
        have c5b0 := decide_eq_true c5
        clear c5
        by_cases c6 : (rd l0 x9_1) = a1
        · rw [if_pos c6] at H
          have c6b0 : ((rd l0 x9_1) == a1) = true := beq_iff_eq.mpr c6
          have c6b1 : ((rd l0 x9_1) != a1) = false := bne_eq_false_iff_eq.mpr c6
          clear c6
          obtain rfl := Option.some.inj H
          have p104 : 0 ≤ (x9_1 : Int) := of_decide_eq_true qe_
          have q104 : x9_1 < (l0.length : Int) := of_decide_eq_true qe_
          obtain ⟨ad104, e104, hx104_0⟩ := Kd.at_int HR0.out x9_1 p104 q104
          cases e104
          replace p104 := eq_true p104
          replace q104 := eq_true q104
          go_wp2
          go_ret
          exact ⟨qc_, by repeat (first | exact Drawn0.refl _ | apply Drawn0.step)⟩
        · rw [if_neg c6] at H
          have c6b0 : ((rd l0 x9_1) == a1) = false := beq_eq_false_iff_ne.mpr c6
          have c6b1 : ((rd l0 x9_1) != a1) = true := bne_iff_ne.mpr c6
          have H' := Aside0.mk H
          clear H
          have p104 : 0 ≤ (x9_1 : Int) := of_decide_eq_true qe_
          have q104 : x9_1 < (l0.length : Int) := of_decide_eq_true qe_
          obtain ⟨ad104, e104, hx104_0⟩ := Kd.at_int HR0.out x9_1 p104 q104
          cases e104
          replace p104 := eq_true p104
          replace q104 := eq_true q104
          go_wp2
          go_roundg k1
          case measure => have := HK1.out; omega
          case rel => exact ⟨(wrap64 (x9_1 + 1)), qc_, H', ⟨by have := HK1.out; omega⟩, by repeat (first | exact Drawn0.refl _ | apply Drawn0.step)⟩
      · rw [if_neg c3] at H
        have c3b0 := decide_eq_false c3
        clear c3
        obtain rfl := Option.some.inj H
        go_wp2
        go_ret
        exact ⟨qc_, by repeat (first | exact Drawn0.refl _ | apply Drawn0.step)⟩
end Go.Proofs.Ytbdnellgioimbaa.A
end
section
namespace Go.Proofs.Ytbdnellgioimbaa.A
open Go.RowKit Go.Proofs.YtbdnellgioimbaaW.PrintWords Go.Proofs.YtbdnellgioimbaaW.PrintLast Go.Proofs.YtbdnellgioimbaaW.PrintMore
attribute [local go_sem] max2_int min2_int max_two min_two max_three min_three max_four min_four
set_option linter.unusedVariables false
set_option linter.unusedSimpArgs false
mutual
def spec_l02Reach.l0 : Nat → List Int → List Int → List Int → Int → Option (List Int)
  | 0, _, _, _, _ => none
  | k + 1, x0, x1, x7, x8 => if x8 < (x7.length : Int) then (if 0 ≤ x8 then (if 0 ≤ (rd x7 x8) then (if (rd x7 x8) < (x0.length : Int) then (if (rd x7 x8) < (x1.length : Int) then ((some (([rd x0 (rd x7 x8), rd x1 (rd x7 x8)] : List Int) : List Int)).bind fun y112 => (spec_l02Reach.l1 k x0 x1 x7 x8 y112 (y112.length : Int) 0)) else (none)) else (none)) else (none)) else (none)) else (some x7)
def spec_l02Reach.l1 : Nat → List Int → List Int → List Int → Int → List Int → Int → Int → Option (List Int)
  | 0, _, _, _, _, _, _, _ => none
  | k + 1, x0, x1, x7, x8, x33, x34, x35 => if x35 < x34 then (if 0 ≤ x35 then (if x35 < (x33.length : Int) then ((spec_l02Has.f k x7 (rd x33 x35)).bind fun t116 => (if t116 = true then (spec_l02Reach.l1 k x0 x1 x7 x8 x33 x34 (wrap64 (x35 + 1))) else (if x7.length < 17592186044416 then (spec_l02Reach.l1 k x0 x1 (x7 ++ [rd x33 x35]) x8 x33 x34 (wrap64 (x35 + 1))) else (none)))) else (none)) else (none)) else (spec_l02Reach.l0 k x0 x1 x7 (wrap64 (x8 + 1)))
end
def spec_l02Reach.f (k : Nat) (l0 : List Int) (l1 : List Int) (a2 : Int) : Option (List Int) := spec_l02Reach.l0 k l0 l1 (([a2] : List Int)) 0
theorem spec_l02Reach.mono_l : ∀ k, (∀ y0 y1 y2 y3, LeO (spec_l02Reach.l0 k y0 y1 y2 y3) (spec_l02Reach.l0 (k + 1) y0 y1 y2 y3)) ∧ (∀ y0 y1 y2 y3 y4 y5 y6, LeO (spec_l02Reach.l1 k y0 y1 y2 y3 y4 y5 y6) (spec_l02Reach.l1 (k + 1) y0 y1 y2 y3 y4 y5 y6))
  | 0 => ⟨fun _ _ _ _ r h => by simp [spec_l02Reach.l0] at h, fun _ _ _ _ _ _ _ r h => by simp [spec_l02Reach.l1] at h⟩
  | k + 1 => by
    obtain ⟨ih0, ih1⟩ := spec_l02Reach.mono_l k
    refine ⟨?_, ?_⟩
    · intro y0 y1 y2 y3
      unfold spec_l02Reach.l0
      repeat' first|exact ih0 _ _ _ _|exact ih1 _ _ _ _ _ _ _|exact spec_l02Has.mono _ _ _|exact lo_|refine LeO.ite ?_ ?_|refine LeO.bind ?_ (fun _ => ?_)
    · intro y0 y1 y2 y3 y4 y5 y6
      unfold spec_l02Reach.l1
      repeat' first|exact ih0 _ _ _ _|exact ih1 _ _ _ _ _ _ _|exact spec_l02Has.mono _ _ _|exact lo_|refine LeO.ite ?_ ?_|refine LeO.bind ?_ (fun _ => ?_)
theorem spec_l02Reach.mono : ∀ a0 a1 a2 k, LeO (spec_l02Reach.f k a0 a1 a2) (spec_l02Reach.f (k + 1) a0 a1 a2) := by
  intro a0 a1 a2 k
  obtain ⟨ih0, ih1⟩ := spec_l02Reach.mono_l k
  unfold spec_l02Reach.f
  repeat' first|exact ih0 _ _ _ _|exact ih1 _ _ _ _ _ _ _|exact spec_l02Has.mono _ _ _|exact lo_|refine LeO.ite ?_ ?_|refine LeO.bind ?_ (fun _ => ?_)
def spec_l02Reach.T5 : Bool × List (List Nat × List Nat) := (true, [([], []), ([], []), ([], []), ([1, 2], [1, 2]), ([3], [3]), ([0, 4], [0, 4]), ([5], [5]), ([], []), ([], []), ([], []), ([8, 9], [8, 9]), ([10], [10]), ([7, 11], [7, 11]), ([12], [12]), ([6, 13], [6, 13]), ([14], [14]), ([], [])])
def spec_l02Reach.B5 : List Nat := [0, 0, 0, 6, 14, 31, 63, 0, 0, 0, 768, 1792, 3968, 8064, 16383, 32767, 0]
theorem spec_l02Reach.tab5 : rtab .any (opsOf Try.f135 5) = spec_l02Reach.T5 := by kernel_rfl
theorem spec_l02Reach.bits5 : waitsOk spec_l02Reach.T5.2 spec_l02Reach.B5 = true := by kernel_rfl
set_option maxHeartbeats 8000000 in
set_option maxRecDepth 100000 in
theorem spec_l02Reach.calls (k : Nat) (A0 : Option Addr) (c0 : Nat) (l0 : List Int) (A1 : Option Addr) (c1 : Nat) (l1 : List Int) (a2 : Int) (r : List Int) (w : World) (hr0 : Kd.C (Kd.int .i64) w A0 l0.length l0) (hc0 : l0.length ≤ c0) (hr1 : Kd.C (Kd.int .i64) w A1 l1.length l1) (hc1 : l1.length ≤ c1) (h : spec_l02Reach.f k l0 l1 a2 = some r) :
    Calls Try.prog 135 #[.slice A0 l0.length c0, .slice A1 l1.length c1, .int .i64 a2] w fun e w' => ∃ v0_ : Value, e = .returned (v0_) ∧ Kd.R (Kd.int .i64) 3 w' w.heap.size (fun _ => True) v0_ r ∧ Below w.heap.size w w' := by
  have HR0 := Aside0.mk hr0
  have HC0 := Aside0.mk hc0
  clear hr0 hc0
  have HR1 := Aside0.mk hr1
  have HC1 := Aside0.mk hc1
  clear hr1 hc1
  have HB := Aside0.mk (Below.refl w.heap.size w)
  have H := h
  unfold spec_l02Reach.f at H
  clear h
  obtain ⟨y105, hy105⟩ : ∃ y_ : List Int, y_ = (([a2] : List Int)) := ⟨_, rfl⟩
  replace H : (spec_l02Reach.l0 k l0 l1 y105 0) = some r := by first | (rw [hy105]; exact H) | exact H
  have Ny105 := Aside0.mk hy105
  clear hy105
  have H' := Aside0.mk H
  clear H
  go_enter Try.func135, Try.ntmps135
  go_wp2_with (first | ((with_reducible refine gate_dst (N := 12) rfl ?_); refine Kd.R_lit (Kd.int .i64) _ 3 ?hg (N := 12) ?hd (xs := ([a2] : List Int)) (inner := [.int .i64 a2]) (ok := fun _ => True) (okp := fun _ => True) ?hr ?hp (fun _ hk => hk) trivial (Below.refl _ _) (Nat.le_refl _) (by simp) ?_; (case hd => rfl); (case hg => rfl); (case hr => first | (go_simp; done) | (go_simp; rfl)); (case hp => exact (Reps.one (show Kd.M (Kd.int .i64) _ _ _ a2 [.int .i64 a2] from rfl) (Reps.none _ _))); intro v106 w4 ho5 hb hg_ hnew_; clear hg_ hnew_; (first | rw [← Ny105.out] at ho5 | (simp only [Int.reduceToNat] at ho5; rw [← Ny105.out] at ho5)); have HO107 := rl_ w ho5; replace HB := b1_ hb; clear hb ho5))
  go_loopg [7, 8] k (fun kq v7 v8 w' => ∃ (x7_1 : List Int) (x8_1 : Int), v8 = .int .i64 x8_1 ∧ Aside0 (spec_l02Reach.l0 kq l0 l1 x7_1 x8_1 = some r) ∧ Aside0 (kq ≤ k) ∧ Aside0 (Kd.R (Kd.int .i64) 3 w' w.heap.size (fun _ => True) v7 x7_1) ∧ Aside0 (Below w.heap.size w w'))
  case atStart => exact ⟨(y105), (0), qc_, H', ⟨Nat.le_refl _⟩, ⟨(rr_ HO107)⟩, ⟨hB_⟩⟩
  case round =>
    clear H'
    obtain ⟨x7_1, x8_1, rfl, HA, HK1, HO_7, HB⟩ := hrel
    cases gk with
    | zero => exact absurd HA.out (by simp [spec_l02Reach.l0])
    | succ k1 =>
      have H := HA.out
      clear HA
      simp only [spec_l02Reach.l0] at H
      by_cases c6 : x8_1 < (x7_1.length : Int)
      · rw [if_pos c6] at H
        have c6b0 := decide_eq_true c6
        clear c6
        have c7 := cp_ H
        replace H := ca_ H
        have c7b0 := decide_eq_true c7
        clear c7
        have c8 := cp_ H
        replace H := ca_ H
        have c8b0 := decide_eq_true c8
        clear c8
        have c9 := cp_ H
        replace H := ca_ H
        have c9b0 := decide_eq_true c9
        clear c9
        have c10 := cp_ H
        replace H := ca_ H
        have c10b0 := decide_eq_true c10
        clear c10
        obtain ⟨y112, hy112⟩ : ∃ y_ : List Int, y_ = (([rd l0 (rd x7_1 x8_1), rd l1 (rd x7_1 x8_1)] : List Int)) := ⟨_, rfl⟩
        replace H : (spec_l02Reach.l1 k1 l0 l1 x7_1 x8_1 y112 (y112.length : Int) 0) = some r := by first | (rw [hy112]; exact H) | exact H
        have Ny112 := Aside0.mk hy112
        clear hy112
        have H' := Aside0.mk H
        clear H
        obtain ⟨Ao11, co11, eo11⟩ := Kd.R_slice HO_7.out
        subst eo11
        try go_wp2
        replace HO_7 := Aside0.mk (Kd.R_drew HO_7.out)
        replace HB := Aside0.mk (below_drew1 HB.out)
        have p108 : 0 ≤ (x8_1 : Int) := of_decide_eq_true qe_
        have q108 : x8_1 < (x7_1.length : Int) := of_decide_eq_true qe_
        obtain ⟨ad108, e108, hx108_0⟩ := Kd.at_int (Kd.R_reads' HO_7.out).2.2 x8_1 p108 q108
        cases e108
        replace p108 := eq_true p108
        replace q108 := eq_true q108
        have p109 : 0 ≤ ((rd x7_1 x8_1) : Int) := of_decide_eq_true qe_
        have q109 : (rd x7_1 x8_1) < (l0.length : Int) := of_decide_eq_true qe_
        obtain ⟨ad109, e109, hx109_0⟩ := Kd.at_int HR0.out (rd x7_1 x8_1) p109 q109
        have hw109_0 := hx109_0
        cases e109
        replace hx109_0 := (HB.out.cell (World.block_lt_of_cell? w _ hx109_0)).trans hx109_0
        replace p109 := eq_true p109
        replace q109 := eq_true q109
        have p110 : 0 ≤ (x8_1 : Int) := of_decide_eq_true qe_
        have q110 : x8_1 < (x7_1.length : Int) := of_decide_eq_true qe_
        obtain ⟨ad110, e110, hx110_0⟩ := Kd.at_int (Kd.R_reads' HO_7.out).2.2 x8_1 p110 q110
        obtain rfl : ad108 = ad110 := (by injection e110)
        replace p110 := eq_true p110
        replace q110 := eq_true q110
        have p111 : 0 ≤ ((rd x7_1 x8_1) : Int) := of_decide_eq_true qe_
        have q111 : (rd x7_1 x8_1) < (l1.length : Int) := of_decide_eq_true qe_
        obtain ⟨ad111, e111, hx111_0⟩ := Kd.at_int HR1.out (rd x7_1 x8_1) p111 q111
        have hw111_0 := hx111_0
        cases e111
        replace hx111_0 := (HB.out.cell (World.block_lt_of_cell? w _ hx111_0)).trans hx111_0
        replace p111 := eq_true p111
        replace q111 := eq_true q111
        refine start_ (n := 17) (S := fun w' => w'.cell? (ad108.add (x8_1).toNat) = some (.int .i64 (rd x7_1 x8_1)) ∧ w'.cell? (ad109.add ((rd x7_1 x8_1)).toNat) = some (.int .i64 (rd l0 (rd x7_1 x8_1))) ∧ w'.cell? (ad108.add (x8_1).toNat) = some (.int .i64 (rd x7_1 x8_1)) ∧ w'.cell? (ad111.add ((rd x7_1 x8_1)).toNat) = some (.int .i64 (rd l1 (rd x7_1 x8_1)))) (ds := []) (bl_ 17 0) (by kernel_rfl) rfl (by kernel_rfl) ⟨hx108_0, ((HB.out.cell (World.block_lt_of_cell? w _ hw109_0)).trans hw109_0), hx110_0, ((HB.out.cell (World.block_lt_of_cell? w _ hw111_0)).trans hw111_0)⟩ (fun hHeld => ?_); refine with_tabW spec_l02Reach.tab5 spec_l02Reach.bits5 (fun HT_ HW_ => ?_)
        generalize wr.drew = w12 at HO_7 HB hx108_0 hx109_0 hx110_0 hx111_0 hHeld ⊢
        refine pu_ 0 (some 19) (bl_ 17 1) HT_ ?_
        refine pu_ 1 (some 20) (bl_ 17 3) HT_ ?_
        refine pu_ 2 (some 21) (bl_ 17 7) HT_ ?_
        refine pu_ 3 (some 22) (bl_ 17 15) HT_ ?_
        refine pu_ 7 (some 26) (bl_ 17 143) HT_ ?_
        refine pu_ 8 (some 27) (bl_ 17 399) HT_ ?_
        refine pu_ 9 (some 28) (bl_ 17 911) HT_ ?_
        refine pu_ 10 (some 29) (bl_ 17 1935) HT_ ?_
        refine pu_ 16 (some 35) (bl_ 17 67471) HT_ ?_
        refine ta_ 4 (some 23) (bl_ 17 67487) HT_ HW_ hHeld ?_
        refine pu_ 5 (some 24) (bl_ 17 67519) HT_ ?_
        refine ta_ 6 (some 25) (bl_ 17 67583) HT_ HW_ hHeld ?_
        refine ta_ 11 (some 30) (bl_ 17 69631) HT_ HW_ hHeld ?_
        refine pu_ 12 (some 31) (bl_ 17 73727) HT_ ?_
        refine ta_ 13 (some 32) (bl_ 17 81919) HT_ HW_ hHeld ?_
        refine on_ 14 (some 33) (bl_ 17 98303) HT_ (fun K hK => ?_)
        refine Kd.R_lit_step (Kd.int .i64) _ 3 ?hg (N := 33) ?hd (xs := ([rd l0 (rd x7_1 x8_1), rd l1 (rd x7_1 x8_1)] : List Int)) (inner := [.int .i64 (rd l0 (rd x7_1 x8_1)), .int .i64 (rd l1 (rd x7_1 x8_1))]) (ok := fun _ => True) (okp := fun _ => True) ?hr ?hp (fun _ hk => hk) trivial (Below.refl _ _) (Nat.le_refl _) (by simp) ?_; (case hd => rfl); (case hg => rfl); (case hr => first | (go_simp; done) | (go_simp; rfl)); (case hp => exact (Reps.one (show Kd.M (Kd.int .i64) _ _ _ (rd l0 (rd x7_1 x8_1)) [.int .i64 (rd l0 (rd x7_1 x8_1))] from rfl) (Reps.one (show Kd.M (Kd.int .i64) _ _ _ (rd l1 (rd x7_1 x8_1)) [.int .i64 (rd l1 (rd x7_1 x8_1))] from rfl) (Reps.none _ _))))
        intro v113 w13 ho14 hb hg_ hnew_
        have HS0_ := (hb.cell (World.block_lt_of_cell? _ _ (hHeld.1))).trans (hHeld.1)
        have HS2_ := (hb.cell (World.block_lt_of_cell? _ _ (hHeld.2.2.1))).trans (hHeld.2.2.1)
        clear hg_ hnew_
        (first | rw [← Ny112.out] at ho14 | (simp only [Int.reduceToNat] at ho14; rw [← Ny112.out] at ho14))
        have HO114 := Aside0.mk (Kd.R_lower (Kd.R_new' ho14 (Kd.R_lt (rr_ HO_7))) (below_size hB_))
        replace HO_7 := Aside0.mk (Kd.R_elder' (rr_ HO_7) (Kd.R_base ho14) hb)
        replace HB := b1_ hb
        clear hb ho14
        obtain ⟨Ao15, co15, eo15⟩ := Kd.R_slice HO114.out
        (first | subst eo15 | (injection eo15 with f1_ f2_ f3_; have f4_ := f1_.symm; have f5_ := f3_.symm; clear f1_ f2_ f3_; subst f4_; subst f5_))
        refine hK.out _ _ ⟨HS0_, ((HB.out.cell (World.block_lt_of_cell? w _ hw109_0)).trans hw109_0), HS2_, ((HB.out.cell (World.block_lt_of_cell? w _ hw111_0)).trans hw111_0)⟩ (fun hHeld => ?_)
        clear hK K
        refine no_ (some 33) ?_
        refine pu_ 15 (some 34) (bl_ 17 131071) HT_ ?_
        refine done_ (done_of HT_.out (by kernel_rfl)) ?_
        try go_wp2
        go_loopg [7, 35] k1 (fun kq v7 v35 w' => ∃ (x7_2 : List Int) (x35_2 : Int), v35 = .int .i64 x35_2 ∧ Aside0 (spec_l02Reach.l1 kq l0 l1 x7_2 x8_1 y112 (y112.length : Int) x35_2 = some r) ∧ Aside0 (kq ≤ k1) ∧ Aside0 (Kd.R (Kd.int .i64) 3 w' w.heap.size (fun k_ => some k_ ≠ ((.slice Ao15 y112.length co15) : Value).ownBlock) v7 x7_2) ∧ Aside0 (Kd.R (Kd.int .i64) 3 w' w.heap.size (fun k_ => some k_ ≠ (v7 : Value).ownBlock) (.slice Ao15 y112.length co15) y112) ∧ Aside0 (Below w.heap.size w w'))
        case atStart => exact ⟨(x7_1), (0), qc_, H', ⟨Nat.le_refl _⟩, ⟨(rw_ (Kd.R_mono HO_7.out (fun _ hk => hk.2)))⟩, ⟨(rw_ (Kd.R_mono HO114.out (fun _ hk => hk.2)))⟩, ⟨hB_⟩⟩
        case round =>
          clear H'
          obtain ⟨x7_2, x35_2, rfl, HA, HK2, HO_7, HO_33, HB⟩ := hrel
          cases gk with
          | zero => exact absurd HA.out (by simp [spec_l02Reach.l1])
          | succ k2 =>
            have H := HA.out
            clear HA
            simp only [spec_l02Reach.l1] at H
            by_cases c16 : x35_2 < (y112.length : Int)
            · rw [if_pos c16] at H
              have c16b0 := decide_eq_true c16
              clear c16
              have c17 := cp_ H
              replace H := ca_ H
              have c17b0 := decide_eq_true c17
              clear c17
              have c18 := cp_ H
              replace H := ca_ H
              have c18b0 := decide_eq_true c18
              clear c18
              obtain ⟨t116, A19, H⟩ := bi_ H
              by_cases c20 : t116 = true
              · subst c20
                rw [if_pos rfl] at H
                have H' := Aside0.mk H
                clear H
                have p115 : 0 ≤ (x35_2 : Int) := of_decide_eq_true qe_
                have q115 : x35_2 < (y112.length : Int) := of_decide_eq_true qe_
                obtain ⟨ad115, e115, hx115_0⟩ := Kd.at_int (Kd.R_reads' HO_33.out).2.2 x35_2 p115 q115
                cases e115
                replace p115 := eq_true p115
                replace q115 := eq_true q115
                obtain ⟨Ao21, co21, eo21⟩ := Kd.R_slice HO_7.out
                subst eo21
                go_wp2_with (first | ((with_reducible refine gate_callee (f := 155) rfl ?_); refine gL_ (some 41) Try.func155 #[.slice Ao21 x7_2.length co21, .int .i64 (rd y112 x35_2)] rfl qa_ ?_; (with_reducible refine (spec_l02Has.calls k2 _ _ x7_2 (rd y112 x35_2) true _ (cr_ HO_7) ((Kd.R_reads' HO_7.out).2.1) A19.out).mono ?_); rintro e w' ⟨rfl, ⟨nd, rfl⟩⟩; refine ⟨_, rfl, ?_⟩))
                go_roundg k2
                case measure => have := HK1.out; have := HK2.out; omega
                case rel => exact ⟨(x7_2), (wrap64 (x35_2 + 1)), qc_, H', ⟨by have := HK1.out; have := HK2.out; omega⟩, ⟨(rr_ HO_7)⟩, ⟨(rr_ HO_33)⟩, ⟨hB_⟩⟩
              · replace c20 := Bool.eq_false_iff.mpr c20
                subst c20
                have H1 : (if x7_2.length < 17592186044416 then (spec_l02Reach.l1 k2 l0 l1 (x7_2 ++ [rd y112 x35_2]) x8_1 y112 (y112.length : Int) (wrap64 (x35_2 + 1))) else (none)) = some r := by rw [if_neg (show ¬ (false = true) by decide)] at H; exact H
                clear H
                have H := H1
                clear H1
                have c22 := cp_ H
                replace H := ca_ H
                have LMc22 := Aside0.mk c22
                clear c22
                obtain ⟨y117, hy117⟩ : ∃ y_ : List Int, y_ = (x7_2 ++ [rd y112 x35_2]) := ⟨_, rfl⟩
                replace H : (spec_l02Reach.l1 k2 l0 l1 y117 x8_1 y112 (y112.length : Int) (wrap64 (x35_2 + 1))) = some r := by first | (rw [hy117]; exact H) | exact H
                have Ny117 := Aside0.mk hy117
                clear hy117
                have H' := Aside0.mk H
                clear H
                have p115 : 0 ≤ (x35_2 : Int) := of_decide_eq_true qe_
                have q115 : x35_2 < (y112.length : Int) := of_decide_eq_true qe_
                obtain ⟨ad115, e115, hx115_0⟩ := Kd.at_int (Kd.R_reads' HO_33.out).2.2 x35_2 p115 q115
                cases e115
                replace p115 := eq_true p115
                replace q115 := eq_true q115
                obtain ⟨Ao23, co23, eo23⟩ := Kd.R_slice HO_7.out
                subst eo23
                go_wp2_with (first | ((with_reducible refine gate_callee (f := 155) rfl ?_); refine gL_ (some 41) Try.func155 #[.slice Ao23 x7_2.length co23, .int .i64 (rd y112 x35_2)] rfl qa_ ?_; (with_reducible refine (spec_l02Has.calls k2 _ _ x7_2 (rd y112 x35_2) false _ (cr_ HO_7) ((Kd.R_reads' HO_7.out).2.1) A19.out).mono ?_); rintro e w' ⟨rfl, ⟨nd, rfl⟩⟩; refine ⟨_, rfl, ?_⟩) | ((with_reducible refine gate_builtin (b := .append) (xs := #[.tmp 43, .tmp 45]) rfl ?_); at_builtin; refine Kd.R_append (Kd.int .i64) (w0 := w) w.heap.size rfl (.tmp 43) (.tmp 45) 22 3 (.int .i64 0) 8 rfl Try.underlying22 info3 rfl (by decide) (by omega) (.slice Ao23 x7_2.length co23) x7_2 (rd y112 x35_2) [.int .i64 (rd y112 x35_2)] (fun k_ => some k_ ≠ (.slice (some ad115) y112.length co15 : Value).ownBlock) (fun _ => False) rfl rfl ?aP (fun _ hk => hk.elim) ?aF ?aO ?aB ?aS ?aL ?_; (case aP => exact rfl); (case aB => exact hB_); (case aF => exact (fun k_ hk => Kd.fresh' (Kd.R_lt (rr_ HO_33)) k_ hk)); (case aO => exact (rr_ HO_7)); (case aS => exact (below_size hB_)); (case aL => have := LMc22.out; omega); intro v118 w24 ho hb hg hat; rw [← Ny117.out] at ho; replace HO_33 := Aside0.mk (Kd.R_after (ok := (fun _ => True)) (rw_ (Kd.R_mono HO_33.out (fun _ hk => ⟨trivial, hk⟩))) hg hat); replace HB := Aside0.mk hb; have HO119 := Aside0.mk ho; clear HO_7; clear ho hb hg hat))
                go_roundg k2
                case measure => have := HK1.out; have := HK2.out; omega
                case rel => exact ⟨(y117), (wrap64 (x35_2 + 1)), qc_, H', ⟨by have := HK1.out; have := HK2.out; omega⟩, ⟨(rr_ HO119)⟩, ⟨(rw_ (Kd.R_mono HO_33.out (fun _ hk => hk.2)))⟩, ⟨hB_⟩⟩
            · rw [if_neg c16] at H
              have c16b0 := decide_eq_false c16
              clear c16
              have H' := Aside0.mk H
              clear H
              go_wp2
              go_roundg k2
              case measure => have := HK1.out; have := HK2.out; omega
              case rel => exact ⟨(x7_2), (wrap64 (x8_1 + 1)), qc_, H', ⟨by have := HK1.out; have := HK2.out; omega⟩, ⟨(rw_ (Kd.R_mono HO_7.out (fun _ hk => trivial)))⟩, ⟨hB_⟩⟩
      · rw [if_neg c6] at H
        have c6b0 := decide_eq_false c6
        clear c6
        obtain rfl := Option.some.inj H
        obtain ⟨Ao25, co25, eo25⟩ := Kd.R_slice HO_7.out
        subst eo25
        go_wp2
        go_ret
        exact ⟨_, qb_, (rr_ HO_7), hB_⟩
end Go.Proofs.Ytbdnellgioimbaa.A
end
section
namespace Go.Proofs.Ytbdnellgioimbaa.A
open Go.RowKit Go.Proofs.YtbdnellgioimbaaW.PrintWords Go.Proofs.YtbdnellgioimbaaW.PrintLast Go.Proofs.YtbdnellgioimbaaW.PrintMore
attribute [local go_sem] max2_int min2_int max_two min_two max_three min_three max_four min_four
set_option linter.unusedVariables false
set_option linter.unusedSimpArgs false
def spec_PermOk.l0 : Nat → List Int → List Int → Int → Int → Option (Bool)
  | 0, _, _, _, _ => none
  | k + 1, x0, x8, x9, x10 => if x10 < x9 then (if 0 ≤ x10 then (if x10 < (x8.length : Int) then ((spec_l01In.f (rd x8 x10) 0 (wrap64 ((x0.length : Int) - 1))).bind fun t121 => (if t121 = true then (if x10 ≤ (x0.length : Int) then ((spec_l02Has.f k (x0.take (x10 : Int).toNat) (rd x8 x10)).bind fun t123 => (if t123 = true then (some false) else (spec_PermOk.l0 k x0 x8 x9 (wrap64 (x10 + 1))))) else (none)) else (some false))) else (none)) else (none)) else (some true)
def spec_PermOk.f (k : Nat) (l0 : List Int) : Option (Bool) := if (l0.length : Int) > 24 then (some false) else (spec_PermOk.l0 k l0 l0 (l0.length : Int) 0)
theorem spec_PermOk.mono_l : ∀ k, (∀ y0 y1 y2 y3, LeO (spec_PermOk.l0 k y0 y1 y2 y3) (spec_PermOk.l0 (k + 1) y0 y1 y2 y3))
  | 0 => fun _ _ _ _ r h => by simp [spec_PermOk.l0] at h
  | k + 1 => by
    have ih0 := spec_PermOk.mono_l k
    · intro y0 y1 y2 y3
      unfold spec_PermOk.l0
      repeat' first
      | (with_reducible exact ih0 _ _ _ _)
      | (with_reducible exact spec_l02Has.mono _ _ _)
      | (with_reducible exact LeO.refl _)
      | (with_reducible exact LeO.none _)
      | (with_reducible refine LeO.ite ?_ ?_)
      | (with_reducible refine LeO.bind ?_ (fun _ => ?_))
      | exact ih0 _ _ _ _
      | exact spec_l02Has.mono _ _ _
      | exact LeO.none _
      | refine LeO.ite ?_ ?_
      | refine LeO.bind ?_ (fun _ => ?_)
theorem spec_PermOk.mono : ∀ a0 k, LeO (spec_PermOk.f k a0) (spec_PermOk.f (k + 1) a0) := by
  intro a0 k
  have ih0 := spec_PermOk.mono_l k
  unfold spec_PermOk.f
  repeat' first
      | (with_reducible exact ih0 _ _ _ _)
      | (with_reducible exact spec_l02Has.mono _ _ _)
      | (with_reducible exact LeO.refl _)
      | (with_reducible exact LeO.none _)
      | (with_reducible refine LeO.ite ?_ ?_)
      | (with_reducible refine LeO.bind ?_ (fun _ => ?_))
      | exact ih0 _ _ _ _
      | exact spec_l02Has.mono _ _ _
      | exact LeO.none _
      | refine LeO.ite ?_ ?_
      | refine LeO.bind ?_ (fun _ => ?_)
set_option maxHeartbeats 8000000 in
set_option maxRecDepth 100000 in
theorem spec_PermOk.calls (k : Nat) (A0 : Option Addr) (c0 : Nat) (l0 : List Int) (r : Bool) (w : World) (hr0 : Kd.C (Kd.int .i64) w A0 l0.length l0) (hc0 : l0.length ≤ c0) (h : spec_PermOk.f k l0 = some r) :
    Calls Try.prog 136 #[.slice A0 l0.length c0] w fun e w' => e = .returned (.bool r) ∧ Drawn0 w w' := by
  have HR0 := Aside0.mk hr0
  have HC0 := Aside0.mk hc0
  clear hr0 hc0
  have H : (if (l0.length : Int) > 24 then (some false) else (spec_PermOk.l0 k l0 l0 (l0.length : Int) 0)) = some r := h
  clear h
  by_cases c2 : (l0.length : Int) > 24
  · rw [if_pos c2] at H
    have c2b0 : decide (24 < (l0.length : Int)) = true := decide_eq_true c2
    have c2b1 : decide (24 < l0.length) = true := decide_eq_true (by omega)
    clear c2
    obtain rfl := Option.some.inj H
    go_enter Try.func136, Try.ntmps136
    go_wp2
    go_ret
    exact ⟨by first | rfl | (simp; done) | (simp [*]; done), by repeat (first | exact Drawn0.refl _ | apply Drawn0.step)⟩
  · rw [if_neg c2] at H
    have c2b0 : decide (24 < (l0.length : Int)) = false := decide_eq_false c2
    have c2b1 : decide (24 < l0.length) = false := decide_eq_false (by omega)
    clear c2
    have H' := Aside0.mk H
    clear H
    go_enter Try.func136, Try.ntmps136
    go_wp2
    go_loopg [10] k (fun kq v10 w' => ∃ (x10_1 : Int), v10 = .int .i64 x10_1 ∧ Aside0 (spec_PermOk.l0 kq l0 l0 (l0.length : Int) x10_1 = some r) ∧ Aside0 (kq ≤ k) ∧ Drawn0 w w')
    case atStart => exact ⟨(0), (by first | rfl | (simp; done) | (simp [*]; done)), H', ⟨Nat.le_refl _⟩, by repeat (first | exact Drawn0.refl _ | apply Drawn0.step)⟩
    case round =>
      clear H'
      try clear c1
      try clear c2
      try clear c2b0
      try clear c2b1
      try clear p2
      obtain ⟨x10_1, rfl, HA, HK1, ⟨m1, rfl⟩⟩ := hrel
      cases gk with
      | zero => exact absurd HA.out (by simp [spec_PermOk.l0])
      | succ k1 =>
        have H := HA.out
        clear HA
        simp only [spec_PermOk.l0] at H
        by_cases c3 : x10_1 < (l0.length : Int)
        · rw [if_pos c3] at H
          have c3b0 : decide (x10_1 < (l0.length : Int)) = true := decide_eq_true c3
          clear c3
          by_cases c4 : 0 ≤ x10_1
          · rw [if_pos c4] at H
            have c4b0 : decide (0 ≤ x10_1) = true := decide_eq_true c4
            clear c4
            by_cases c5 : x10_1 < (l0.length : Int)
            · rw [if_pos c5] at H
              have c5b0 : decide (x10_1 < (l0.length : Int)) = true := decide_eq_true c5
              clear c5
              replace H := Option.bind_eq_some_iff.mp H
              obtain ⟨t121, A60, H⟩ := H
              replace H : (if t121 = true then (if x10_1 ≤ (l0.length : Int) then ((spec_l02Has.f k1 (l0.take (x10_1 : Int).toNat) (rd l0 x10_1)).bind fun t123 => (if t123 = true then (some false) else (spec_PermOk.l0 k1 l0 l0 (l0.length : Int) (wrap64 (x10_1 + 1))))) else (none)) else (some false)) = some r := H
              have A6 := Aside0.mk A60
              clear A60
              by_cases c7 : t121 = true
              · subst c7
                have H1 : (if x10_1 ≤ (l0.length : Int) then ((spec_l02Has.f k1 (l0.take (x10_1 : Int).toNat) (rd l0 x10_1)).bind fun t123 => (if t123 = true then (some false) else (spec_PermOk.l0 k1 l0 l0 (l0.length : Int) (wrap64 (x10_1 + 1))))) else (none)) = some r := by rw [if_pos rfl] at H; exact H
                clear H
                have H := H1
                clear H1
                have c8b0 := eq_true (of_decide_eq_true (by first | (with_reducible assumption) | assumption) : 0 ≤ x10_1)
                by_cases c9 : x10_1 ≤ (l0.length : Int)
                · rw [if_pos c9] at H
                  have c9b0 := eq_true c9
                  have c9b1 : decide (x10_1 ≤ (l0.length : Int)) = true := decide_eq_true c9
                  clear c9
                  replace H := Option.bind_eq_some_iff.mp H
                  obtain ⟨t123, A100, H⟩ := H
                  replace H : (if t123 = true then (some false) else (spec_PermOk.l0 k1 l0 l0 (l0.length : Int) (wrap64 (x10_1 + 1)))) = some r := H
                  have A10 := Aside0.mk A100
                  clear A100
                  by_cases c11 : t123 = true
                  · subst c11
                    have H1 : (some false) = some r := by rw [if_pos rfl] at H; exact H
                    clear H
                    have H := H1
                    clear H1
                    obtain rfl := Option.some.inj H
                    have p120 : 0 ≤ (x10_1 : Int) := of_decide_eq_true (by first | (with_reducible assumption) | assumption)
                    have q120 : x10_1 < (l0.length : Int) := of_decide_eq_true (by first | (with_reducible assumption) | assumption)
                    obtain ⟨ad120, e120, hx120_0⟩ := Kd.at_int HR0.out x10_1 p120 q120
                    cases e120
                    replace p120 := eq_true p120
                    replace q120 := eq_true q120
                    have HL_ := Aside0.mk (show (x10_1 : Int).toNat = (l0.take (x10_1 : Int).toNat).length by rw [List.length_take]; have := of_eq_true q120; omega)
                    go_wp2_with (first | ((with_reducible refine gate_callee (f := 115) rfl ?_); refine goesL_ (some 19) rfl rfl Try.func115 (by kernel_rfl) rfl #[.int .i64 (rd l0 x10_1), .int .i64 0, .int .i64 (wrap64 ((l0.length : Int) - 1))] rfl (by (try simp only [List.map_toArray, List.map_cons, List.map_nil]); first | done | rfl | (simp only [List.length_drop, List.length_take]; rfl)) ?_; (with_reducible refine (spec_l01In.calls (rd l0 x10_1) 0 (wrap64 ((l0.length : Int) - 1)) true _ A6.out).mono ?_); rintro e w' ⟨rfl, ⟨nd, rfl⟩⟩; refine ⟨_, rfl, ?_⟩; obtain ⟨i012, hi012, _, hsz12, _⟩ := info_parts info3; obtain ⟨hcut12, hA12, hC12⟩ := print_take_of (P := Try.prog) (Value.int .i64) 0 22 3 .i64 Try.underlying22 hi012 hsz12 (some ad120) c0 l0 x10_1 (of_decide_eq_true (by first | (with_reducible assumption) | assumption)) (of_decide_eq_true (by first | (with_reducible assumption) | assumption)) HC0.out; have HR122 := Aside0.mk (Kd.C_of_reads (h1 := fun _ => rfl) (hA12 _ (Kd.reads_of_C HR0.out))); have HC122 := Aside0.mk hC12; clear hA12 hC12 hi012 hsz12) | (go_at_call 155; refine calls_of_args (congrArg (fun n_ => #[Value.slice _ n_ _, _]) HL_.out) ?_; (with_reducible refine (spec_l02Has.calls k1 _ _ (l0.take (x10_1 : Int).toNat) (rd l0 x10_1) true _ ?side1 ?side2 A10.out).mono ?_); (case side1 => repeat (first | exact HR122.out | (with_reducible refine Kd.C_alloc ?_ _) | (with_reducible refine Kd.C_drewN ?_ _) | (with_reducible refine Kd.C_drew ?_))); (case side2 => exact HC122.out); rintro e w' ⟨rfl, ⟨nd, rfl⟩⟩))
                    go_ret
                    exact ⟨by first | rfl | (simp; done) | (simp [*]; done), by repeat (first | exact Drawn0.refl _ | apply Drawn0.step)⟩
                  · replace c11 := Bool.eq_false_iff.mpr c11
                    subst c11
                    have H1 : (spec_PermOk.l0 k1 l0 l0 (l0.length : Int) (wrap64 (x10_1 + 1))) = some r := by rw [if_neg (show ¬ (false = true) by decide)] at H; exact H
                    clear H
                    have H := H1
                    clear H1
                    have H' := Aside0.mk H
                    clear H
                    have p120 : 0 ≤ (x10_1 : Int) := of_decide_eq_true (by first | (with_reducible assumption) | assumption)
                    have q120 : x10_1 < (l0.length : Int) := of_decide_eq_true (by first | (with_reducible assumption) | assumption)
                    obtain ⟨ad120, e120, hx120_0⟩ := Kd.at_int HR0.out x10_1 p120 q120
                    cases e120
                    replace p120 := eq_true p120
                    replace q120 := eq_true q120
                    have HL_ := Aside0.mk (show (x10_1 : Int).toNat = (l0.take (x10_1 : Int).toNat).length by rw [List.length_take]; have := of_eq_true q120; omega)
                    go_wp2_with (first | ((with_reducible refine gate_callee (f := 115) rfl ?_); refine goesL_ (some 19) rfl rfl Try.func115 (by kernel_rfl) rfl #[.int .i64 (rd l0 x10_1), .int .i64 0, .int .i64 (wrap64 ((l0.length : Int) - 1))] rfl (by (try simp only [List.map_toArray, List.map_cons, List.map_nil]); first | done | rfl | (simp only [List.length_drop, List.length_take]; rfl)) ?_; (with_reducible refine (spec_l01In.calls (rd l0 x10_1) 0 (wrap64 ((l0.length : Int) - 1)) true _ A6.out).mono ?_); rintro e w' ⟨rfl, ⟨nd, rfl⟩⟩; refine ⟨_, rfl, ?_⟩; obtain ⟨i013, hi013, _, hsz13, _⟩ := info_parts info3; obtain ⟨hcut13, hA13, hC13⟩ := print_take_of (P := Try.prog) (Value.int .i64) 0 22 3 .i64 Try.underlying22 hi013 hsz13 (some ad120) c0 l0 x10_1 (of_decide_eq_true (by first | (with_reducible assumption) | assumption)) (of_decide_eq_true (by first | (with_reducible assumption) | assumption)) HC0.out; have HR122 := Aside0.mk (Kd.C_of_reads (h1 := fun _ => rfl) (hA13 _ (Kd.reads_of_C HR0.out))); have HC122 := Aside0.mk hC13; clear hA13 hC13 hi013 hsz13) | (go_at_call 155; refine calls_of_args (congrArg (fun n_ => #[Value.slice _ n_ _, _]) HL_.out) ?_; (with_reducible refine (spec_l02Has.calls k1 _ _ (l0.take (x10_1 : Int).toNat) (rd l0 x10_1) false _ ?side1 ?side2 A10.out).mono ?_); (case side1 => repeat (first | exact HR122.out | (with_reducible refine Kd.C_alloc ?_ _) | (with_reducible refine Kd.C_drewN ?_ _) | (with_reducible refine Kd.C_drew ?_))); (case side2 => exact HC122.out); rintro e w' ⟨rfl, ⟨nd, rfl⟩⟩))
                    go_roundg k1
                    case measure => have := HK1.out; omega
                    case rel => exact ⟨(wrap64 (x10_1 + 1)), (by first | rfl | (simp; done) | (simp [*]; done)), H', ⟨by have := HK1.out; omega⟩, by repeat (first | exact Drawn0.refl _ | apply Drawn0.step)⟩
                · rw [if_neg c9] at H
                  exact absurd H (by simp)
              · replace c7 := Bool.eq_false_iff.mpr c7
                subst c7
                have H1 : (some false) = some r := by rw [if_neg (show ¬ (false = true) by decide)] at H; exact H
                clear H
                have H := H1
                clear H1
                obtain rfl := Option.some.inj H
                have p120 : 0 ≤ (x10_1 : Int) := of_decide_eq_true (by first | (with_reducible assumption) | assumption)
                have q120 : x10_1 < (l0.length : Int) := of_decide_eq_true (by first | (with_reducible assumption) | assumption)
                obtain ⟨ad120, e120, hx120_0⟩ := Kd.at_int HR0.out x10_1 p120 q120
                cases e120
                replace p120 := eq_true p120
                replace q120 := eq_true q120
                have HL_ := Aside0.mk (show (x10_1 : Int).toNat = (l0.take (x10_1 : Int).toNat).length by rw [List.length_take]; have := of_eq_true q120; omega)
                go_wp2_with (first | ((with_reducible refine gate_callee (f := 115) rfl ?_); refine goesL_ (some 19) rfl rfl Try.func115 (by kernel_rfl) rfl #[.int .i64 (rd l0 x10_1), .int .i64 0, .int .i64 (wrap64 ((l0.length : Int) - 1))] rfl (by (try simp only [List.map_toArray, List.map_cons, List.map_nil]); first | done | rfl | (simp only [List.length_drop, List.length_take]; rfl)) ?_; (with_reducible refine (spec_l01In.calls (rd l0 x10_1) 0 (wrap64 ((l0.length : Int) - 1)) false _ A6.out).mono ?_); rintro e w' ⟨rfl, ⟨nd, rfl⟩⟩; refine ⟨_, rfl, ?_⟩))
                go_ret
                exact ⟨by first | rfl | (simp; done) | (simp [*]; done), by repeat (first | exact Drawn0.refl _ | apply Drawn0.step)⟩
            · rw [if_neg c5] at H
              exact absurd H (by simp)
          · rw [if_neg c4] at H
            exact absurd H (by simp)
        · rw [if_neg c3] at H
          have c3b0 : decide (x10_1 < (l0.length : Int)) = false := decide_eq_false c3
          clear c3
          obtain rfl := Option.some.inj H
          go_wp2
          go_ret
          exact ⟨by first | rfl | (simp; done) | (simp [*]; done), by repeat (first | exact Drawn0.refl _ | apply Drawn0.step)⟩
end Go.Proofs.Ytbdnellgioimbaa.A
end
section
namespace Go.Proofs.Ytbdnellgioimbaa.A
open Go.RowKit Go.Proofs.YtbdnellgioimbaaW.PrintWords Go.Proofs.YtbdnellgioimbaaW.PrintLast Go.Proofs.YtbdnellgioimbaaW.PrintMore
attribute [local go_sem] max2_int min2_int max_two min_two max_three min_three max_four min_four
set_option linter.unusedVariables false
set_option linter.unusedSimpArgs false
def spec_IsTransitive.f (k : Nat) (l0 : List Int) (l1 : List Int) : Option (Bool) := (spec_PermOk.f k l0).bind fun t124 => (if t124 = true then ((spec_PermOk.f k l1).bind fun t125 => (if t125 = true then (if (l0.length : Int) = (l1.length : Int) then (if (l0.length : Int) > 0 then ((spec_l02Reach.f k l0 l1 0).bind fun t126 => (some ((t126.length : Int) == (l0.length : Int)))) else (some false)) else (some false)) else (some false))) else (some false))
theorem spec_IsTransitive.mono : ∀ a0 a1 k, LeO (spec_IsTransitive.f k a0 a1) (spec_IsTransitive.f (k + 1) a0 a1) := by
  intro a0 a1 k
  unfold spec_IsTransitive.f
  repeat' first|exact spec_PermOk.mono _ _|exact spec_l02Reach.mono _ _ _ _|exact lo_|refine LeO.ite ?_ ?_|refine LeO.bind ?_ (fun _ => ?_)
set_option maxHeartbeats 8000000 in
set_option maxRecDepth 100000 in
theorem spec_IsTransitive.calls (k : Nat) (A0 : Option Addr) (c0 : Nat) (l0 : List Int) (A1 : Option Addr) (c1 : Nat) (l1 : List Int) (r : Bool) (w : World) (hr0 : Kd.C (Kd.int .i64) w A0 l0.length l0) (hc0 : l0.length ≤ c0) (hr1 : Kd.C (Kd.int .i64) w A1 l1.length l1) (hc1 : l1.length ≤ c1) (h : spec_IsTransitive.f k l0 l1 = some r) :
    Calls Try.prog 110 #[.slice A0 l0.length c0, .slice A1 l1.length c1] w fun e w' => e = .returned (.bool r) ∧ Below w.heap.size w w' := by
  have HR0 := Aside0.mk hr0
  have HC0 := Aside0.mk hc0
  clear hr0 hc0
  have HR1 := Aside0.mk hr1
  have HC1 := Aside0.mk hc1
  clear hr1 hc1
  have HB := Aside0.mk (Below.refl w.heap.size w)
  have H := h
  unfold spec_IsTransitive.f at H
  clear h
  obtain ⟨t124, A3, H⟩ := bi_ H
  by_cases c4 : t124 = true
  · subst c4
    rw [if_pos rfl] at H
    obtain ⟨t125, A5, H⟩ := bi_ H
    by_cases c6 : t125 = true
    · subst c6
      rw [if_pos rfl] at H
      by_cases c7 : (l0.length : Int) = (l1.length : Int)
      · rw [if_pos c7] at H
        have c7b0 : ((l0.length : Int) == (l1.length : Int)) = true := beq_iff_eq.mpr c7
        have c7b1 : ((l0.length : Int) != (l1.length : Int)) = false := bne_eq_false_iff_eq.mpr c7
        have c7b2 : (l0.length == l1.length) = true := by first | simpa using c7 | (simp at c7 ⊢; omega)
        clear c7
        by_cases c8 : (l0.length : Int) > 0
        · rw [if_pos c8] at H
          have c8b0 : decide (0 < (l0.length : Int)) = true := decide_eq_true c8
          have c8b1 : decide (0 < l0.length) = true := decide_eq_true (by omega)
          clear c8
          obtain ⟨t126, A9, H⟩ := bi_ H
          obtain rfl := Option.some.inj H
          go_enter Try.func110, Try.ntmps110
          go_wp2_with (first | ((with_reducible refine gate_callee (f := 136) rfl ?_); refine gL_ (some 6) Try.func136 #[.slice A0 l0.length c0] rfl qa_ ?_; (with_reducible refine (spec_PermOk.calls k _ _ l0 true _ (cc_ HR0) HC0.out A3.out).mono ?_); rintro e w' ⟨rfl, ⟨nd, rfl⟩⟩; refine ⟨_, rfl, ?_⟩) | (go_at_call 136; (with_reducible refine (spec_PermOk.calls k _ _ l1 true _ (cc_ HR1) HC1.out A5.out).mono ?_); rintro e w' ⟨rfl, ⟨nd, rfl⟩⟩) | (go_at_call 135; (with_reducible refine (spec_l02Reach.calls k _ _ l0 _ _ l1 0 t126 _ (cc_ HR0) HC0.out (cc_ HR1) HC1.out A9.out).mono ?_); rintro e w10 ⟨v127, rfl, ho0, hb⟩; have HO128 := rl_ w ho0; replace HB := b1_ hb; clear hb ho0; obtain ⟨Ao11, co11, eo11⟩ := Kd.R_slice HO128.out; subst eo11))
          go_ret
          exact ⟨qb_, hB_⟩
        · rw [if_neg c8] at H
          have c8b0 : decide (0 < (l0.length : Int)) = false := decide_eq_false c8
          have c8b1 : decide (0 < l0.length) = false := decide_eq_false (by omega)
          clear c8
          obtain rfl := Option.some.inj H
          go_enter Try.func110, Try.ntmps110
          go_wp2_with (first | ((with_reducible refine gate_callee (f := 136) rfl ?_); refine gL_ (some 6) Try.func136 #[.slice A0 l0.length c0] rfl qa_ ?_; (with_reducible refine (spec_PermOk.calls k _ _ l0 true _ (cc_ HR0) HC0.out A3.out).mono ?_); rintro e w' ⟨rfl, ⟨nd, rfl⟩⟩; refine ⟨_, rfl, ?_⟩) | (go_at_call 136; (with_reducible refine (spec_PermOk.calls k _ _ l1 true _ (cc_ HR1) HC1.out A5.out).mono ?_); rintro e w' ⟨rfl, ⟨nd, rfl⟩⟩))
          go_ret
          exact ⟨qb_, hB_⟩
      · rw [if_neg c7] at H
        have c7b0 : ((l0.length : Int) == (l1.length : Int)) = false := beq_eq_false_iff_ne.mpr c7
        have c7b1 : ((l0.length : Int) != (l1.length : Int)) = true := bne_iff_ne.mpr c7
        have c7b2 : (l0.length == l1.length) = false := by first | simpa using c7 | (simp at c7 ⊢; omega)
        obtain rfl := Option.some.inj H
        go_enter Try.func110, Try.ntmps110
        go_wp2_with (first | ((with_reducible refine gate_callee (f := 136) rfl ?_); refine gL_ (some 6) Try.func136 #[.slice A0 l0.length c0] rfl qa_ ?_; (with_reducible refine (spec_PermOk.calls k _ _ l0 true _ (cc_ HR0) HC0.out A3.out).mono ?_); rintro e w' ⟨rfl, ⟨nd, rfl⟩⟩; refine ⟨_, rfl, ?_⟩) | (go_at_call 136; (with_reducible refine (spec_PermOk.calls k _ _ l1 true _ (cc_ HR1) HC1.out A5.out).mono ?_); rintro e w' ⟨rfl, ⟨nd, rfl⟩⟩))
        go_ret
        exact ⟨qb_, hB_⟩
    · replace c6 := Bool.eq_false_iff.mpr c6
      subst c6
      have H1 : (some false) = some r := by rw [if_neg (show ¬ (false = true) by decide)] at H; exact H
      clear H
      have H := H1
      clear H1
      obtain rfl := Option.some.inj H
      go_enter Try.func110, Try.ntmps110
      go_wp2_with (first | ((with_reducible refine gate_callee (f := 136) rfl ?_); refine gL_ (some 6) Try.func136 #[.slice A0 l0.length c0] rfl qa_ ?_; (with_reducible refine (spec_PermOk.calls k _ _ l0 true _ (cc_ HR0) HC0.out A3.out).mono ?_); rintro e w' ⟨rfl, ⟨nd, rfl⟩⟩; refine ⟨_, rfl, ?_⟩) | (go_at_call 136; (with_reducible refine (spec_PermOk.calls k _ _ l1 false _ (cc_ HR1) HC1.out A5.out).mono ?_); rintro e w' ⟨rfl, ⟨nd, rfl⟩⟩))
      go_ret
      exact ⟨qb_, hB_⟩
  · replace c4 := Bool.eq_false_iff.mpr c4
    subst c4
    have H1 : (some false) = some r := by rw [if_neg (show ¬ (false = true) by decide)] at H; exact H
    clear H
    have H := H1
    clear H1
    obtain rfl := Option.some.inj H
    go_enter Try.func110, Try.ntmps110
    go_wp2_with (first | ((with_reducible refine gate_callee (f := 136) rfl ?_); refine gL_ (some 6) Try.func136 #[.slice A0 l0.length c0] rfl qa_ ?_; (with_reducible refine (spec_PermOk.calls k _ _ l0 false _ (cc_ HR0) HC0.out A3.out).mono ?_); rintro e w' ⟨rfl, ⟨nd, rfl⟩⟩; refine ⟨_, rfl, ?_⟩))
    go_ret
    exact ⟨qb_, hB_⟩
end Go.Proofs.Ytbdnellgioimbaa.A
end
section
namespace Go.Proofs.Ytbdnellgioimbaa.A
open Go.RowKit Go.Proofs.YtbdnellgioimbaaW.PrintWords Go.Proofs.YtbdnellgioimbaaW.PrintLast Go.Proofs.YtbdnellgioimbaaW.PrintMore
attribute [local go_sem] max2_int min2_int max_two min_two max_three min_three max_four min_four
set_option linter.unusedVariables false
set_option linter.unusedSimpArgs false
def spec_SurfaceOk.f (k : Nat) (l0_0 : List Int) (l0_1 : List Int) : Option (Bool) := (spec_IsTransitive.f k l0_0 l0_1).bind fun t130 => (some t130)
theorem spec_SurfaceOk.mono : ∀ a0 a1 k, LeO (spec_SurfaceOk.f k a0 a1) (spec_SurfaceOk.f (k + 1) a0 a1) := by
  intro a0 a1 k
  unfold spec_SurfaceOk.f
  repeat' first|exact spec_IsTransitive.mono _ _ _|exact lo_|refine LeO.ite ?_ ?_|refine LeO.bind ?_ (fun _ => ?_)
set_option maxHeartbeats 8000000 in
set_option maxRecDepth 100000 in
theorem spec_SurfaceOk.calls (k : Nat) (A0_0 : Option Addr) (c0_0 : Nat) (l0_0 : List Int) (A0_1 : Option Addr) (c0_1 : Nat) (l0_1 : List Int) (r : Bool) (w : World) (hr0_0 : Kd.C (Kd.int .i64) w A0_0 l0_0.length l0_0) (hc0_0 : l0_0.length ≤ c0_0) (hr0_1 : Kd.C (Kd.int .i64) w A0_1 l0_1.length l0_1) (hc0_1 : l0_1.length ≤ c0_1) (h : spec_SurfaceOk.f k l0_0 l0_1 = some r) :
    Calls Try.prog 63 #[.agg #[.slice A0_0 l0_0.length c0_0, .slice A0_1 l0_1.length c0_1]] w fun e w' => e = .returned (.bool r) ∧ Below w.heap.size w w' := by
  have hu27 := Try.underlying27
  have HR0_0 := Aside0.mk hr0_0
  have HC0_0 := Aside0.mk hc0_0
  clear hr0_0 hc0_0
  have HR0_1 := Aside0.mk hr0_1
  have HC0_1 := Aside0.mk hc0_1
  clear hr0_1 hc0_1
  have HB := Aside0.mk (Below.refl w.heap.size w)
  have H := h
  unfold spec_SurfaceOk.f at H
  clear h
  obtain ⟨t130, A2, H⟩ := bi_ H
  obtain rfl := Option.some.inj H
  go_enter Try.func63, Try.ntmps63
  go_wp2_with (first | ((with_reducible refine gate_dst (N := 1) rfl ?_); refine bx_ 1 #[.slice A0_0 l0_0.length c0_0, .slice A0_1 l0_1.length c0_1] 27 ?_; intro gb129 hg w3 hbox hb; have BK129 := Aside0.mk hbox; have GW129 := gw_ w hg; have GE129 := GW129; replace HB := b1_ hb; clear hb hbox hg; obtain ⟨hcz4_0, hcz4_1, hfz4_0, hfz4_1⟩ := c2_ BK129) | ((with_reducible refine gate_callee (f := 110) rfl ?_); refine gL_ (some 7) Try.func110 #[.slice A0_0 l0_0.length c0_0, .slice A0_1 l0_1.length c0_1] rfl qa_ ?_; (with_reducible refine (spec_IsTransitive.calls k _ _ l0_0 _ _ l0_1 t130 _ (cb_ HR0_0) HC0_0.out (cb_ HR0_1) HC0_1.out A2.out).mono ?_); rintro e w5 ⟨rfl, hb⟩; refine ⟨_, rfl, ?_⟩; replace BK129 := bb_ BK129 hb; replace HB := b1_ hb; clear hb))
  go_ret
  exact ⟨qb_, hB_⟩
end Go.Proofs.Ytbdnellgioimbaa.A
end
section
namespace Go.Proofs.Ytbdnellgioimbaa.A
open Go.RowKit Go.Proofs.YtbdnellgioimbaaW.PrintWords Go.Proofs.YtbdnellgioimbaaW.PrintLast Go.Proofs.YtbdnellgioimbaaW.PrintMore
attribute [local go_sem] max2_int min2_int max_two min_two max_three min_three max_four min_four
set_option linter.unusedVariables false
set_option linter.unusedSimpArgs false
def spec_l02Draw.l0 : Nat → Int → List Int → Int → List Int → Int → Int → Option (List Int × Int × Int)
  | 0, _, _, _, _, _, _ => none
  | k + 1, x1, x5, x6, x1000, x1001, x1002 => if x6 < x1 then ((spec_l01Below.f x1000 x1001 x1002 (wrap64 (x6 + 1))).bind fun bt840 => (if x5.length < 17592186044416 then ((some (x5 ++ [x6] : List Int)).bind fun y843 => (if 0 ≤ bt840.1 then (if bt840.1 < (y843.length : Int) then (if 0 ≤ x6 then (if x6 < (y843.length : Int) then (spec_l02Draw.l0 k x1 ((y843.set (x6 : Int).toNat (rd y843 bt840.1)).set (bt840.1 : Int).toNat x6) (wrap64 (x6 + 1)) x1000 bt840.2.1 bt840.2.2) else (none)) else (none)) else (none)) else (none))) else (none))) else (some (x5, x1001, x1002))
def spec_l02Draw.f (k : Nat) (s0_0 : List Int) (s0_1 : Int) (s0_2 : Int) (a1 : Int) : Option (List Int × Int × Int) := spec_l02Draw.l0 k a1 (([] : List Int)) 0 s0_0 s0_1 s0_2
theorem spec_l02Draw.mono_l : ∀ k, (∀ y0 y1 y2 y3 y4 y5, LeO (spec_l02Draw.l0 k y0 y1 y2 y3 y4 y5) (spec_l02Draw.l0 (k + 1) y0 y1 y2 y3 y4 y5))
  | 0 => fun _ _ _ _ _ _ r h => by simp [spec_l02Draw.l0] at h
  | k + 1 => by
    have ih0 := spec_l02Draw.mono_l k
    · intro y0 y1 y2 y3 y4 y5
      unfold spec_l02Draw.l0
      repeat' first|exact ih0 _ _ _ _ _ _|exact lo_|refine LeO.ite ?_ ?_|refine LeO.bind ?_ (fun _ => ?_)
theorem spec_l02Draw.mono : ∀ a0 a1 a2 a3 k, LeO (spec_l02Draw.f k a0 a1 a2 a3) (spec_l02Draw.f (k + 1) a0 a1 a2 a3) := by
  intro a0 a1 a2 a3 k
  have ih0 := spec_l02Draw.mono_l k
  unfold spec_l02Draw.f
  repeat' first|exact ih0 _ _ _ _ _ _|exact lo_|refine LeO.ite ?_ ?_|refine LeO.bind ?_ (fun _ => ?_)
set_option maxHeartbeats 8000000 in
set_option maxRecDepth 100000 in
theorem spec_l02Draw.calls (k : Nat) (g : Nat) (s0_0 : List Int) (s0_1 : Int) (s0_2 : Int) (a1 : Int) (r1 : List Int) (r2 : Int) (r3 : Int) (w0 w : World) (hI : IsS105 w0 w g s0_0 s0_1 s0_2) (hB : Below w0.heap.size w0 w) (h : spec_l02Draw.f k s0_0 s0_1 s0_2 a1 = some (r1, r2, r3)) :
    Calls Try.prog 117 #[.pointer (some ⟨g, 0, none⟩), .int .i64 a1] w fun e w' => ∃ v0_ : Value, e = .returned (v0_) ∧ Kd.R (Kd.int .i64) 3 w' w.heap.size (fun _ => True) v0_ r1 ∧ IsS105 w0 w' g s0_0 r2 r3 ∧ Below w0.heap.size w0 w' ∧ KeepBut w w' g none := by
  have HI0 := Aside0.mk hI
  have HK := Aside0.mk (KeepBut.refl w g none)
  have HL := Aside0.mk hB.size
  clear hI
  have HW0 := Aside0.mk hB.size
  have HB := Aside0.mk hB
  clear hB
  have H := h
  unfold spec_l02Draw.f at H
  clear h
  obtain ⟨y837, hy837⟩ : ∃ y_ : List Int, y_ = (([] : List Int)) := ⟨_, rfl⟩
  replace H : (spec_l02Draw.l0 k a1 y837 0 s0_0 s0_1 s0_2) = some (r1, r2, r3) := by first | (rw [hy837]; exact H) | exact H
  have Ny837 := Aside0.mk hy837
  clear hy837
  have H' := Aside0.mk H
  clear H
  go_enter Try.func117, Try.ntmps117
  go_wp2_with (first | ((with_reducible refine gate_dst (N := 8) rfl ?_); refine Kd.R_lit (Kd.int .i64) _ 3 ?hg (N := 8) ?hd (xs := ([] : List Int)) (inner := []) (ok := fun _ => True) (okp := fun _ => True) ?hr ?hp (fun _ hk => hk) trivial (Below.refl _ _) (Nat.le_refl _) (by simp) ?_; (case hd => rfl); (case hg => rfl); (case hr => first | (go_simp; done) | (go_simp; rfl)); (case hp => exact (Reps.none _ _)); intro v838 w3 ho4 hb hg_ hnew_; clear hg_ hnew_; (first | rw [← Ny837.out] at ho4 | (simp only [Int.reduceToNat] at ho4; rw [← Ny837.out] at ho4)); have HO839 := Aside0.mk (Kd.R_lower ho4 (keep_size (w := w) (g := g) (row := none) hK_)); replace HK := Aside0.mk (KeepBut.trans hK_ (KeepBut.of_below hb g none) (.inl rfl)); replace HB := b2_ hb; replace HI0 := Aside0.mk (IsS105.below hI_IsS105_HI0 hb); clear hb ho4))
  go_loopg [5, 6] k (fun kq v5 v6 w' => ∃ (x5_1 : List Int) (x6_1 : Int) (x1001_1 : Int) (x1002_1 : Int), v6 = .int .i64 x6_1 ∧ Aside0 (spec_l02Draw.l0 kq a1 x5_1 x6_1 s0_0 x1001_1 x1002_1 = some (r1, r2, r3)) ∧ Aside0 (kq ≤ k) ∧ Aside0 (Kd.R (Kd.int .i64) 3 w' w.heap.size (fun _ => True) v5 x5_1) ∧ Aside0 (IsS105 w0 w' g s0_0 x1001_1 x1002_1) ∧ Aside0 (KeepBut w w' g none) ∧ Aside0 (Below w0.heap.size w0 w'))
  case atStart => exact ⟨(y837), (0), (s0_1), (s0_2), qc_, H', ⟨Nat.le_refl _⟩, ⟨(rr_ HO839)⟩, ⟨hI_IsS105_HI0⟩, ⟨hK_⟩, ⟨hBI_⟩⟩
  case round =>
    clear H'
    obtain ⟨x5_1, x6_1, x1001_1, x1002_1, rfl, HA, HK1, HO_5, HI0, HK, HB⟩ := hrel
    cases gk with
    | zero => exact absurd HA.out (by simp [spec_l02Draw.l0])
    | succ k1 =>
      have H := HA.out
      clear HA
      simp only [spec_l02Draw.l0] at H
      by_cases c5 : x6_1 < a1
      · rw [if_pos c5] at H
        have c5b0 := decide_eq_true c5
        clear c5
        obtain ⟨⟨t840, t841, t842⟩, A6, H⟩ := bi_ H
        try dsimp only at H
        have c7 := cp_ H
        replace H := ca_ H
        have LMc7 := Aside0.mk c7
        clear c7
        obtain ⟨y843, hy843⟩ : ∃ y_ : List Int, y_ = (x5_1 ++ [x6_1]) := ⟨_, rfl⟩
        replace H : (if 0 ≤ t840 then (if t840 < (y843.length : Int) then (if 0 ≤ x6_1 then (if x6_1 < (y843.length : Int) then (spec_l02Draw.l0 k1 a1 ((y843.set (x6_1 : Int).toNat (rd y843 t840)).set (t840 : Int).toNat x6_1) (wrap64 (x6_1 + 1)) s0_0 t841 t842) else (none)) else (none)) else (none)) else (none)) = some (r1, r2, r3) := by first | (rw [hy843]; exact H) | exact H
        have Ny843 := Aside0.mk hy843
        clear hy843
        have c8 := cp_ H
        replace H := ca_ H
        have c8b0 := decide_eq_true c8
        clear c8
        have c9 := cp_ H
        replace H := ca_ H
        have c9b0 := decide_eq_true c9
        clear c9
        have c10 := cp_ H
        replace H := ca_ H
        have c10b0 := decide_eq_true c10
        clear c10
        have c11 := cp_ H
        replace H := ca_ H
        have c11b0 := decide_eq_true c11
        clear c11
        obtain ⟨y847, hy847⟩ : ∃ y_ : List Int, y_ = (y843.set (x6_1 : Int).toNat (rd y843 t840)) := ⟨_, rfl⟩
        replace H : (spec_l02Draw.l0 k1 a1 (y847.set (t840 : Int).toNat x6_1) (wrap64 (x6_1 + 1)) s0_0 t841 t842) = some (r1, r2, r3) := by first | (rw [hy847]; exact H) | exact H
        have Ny847 := Aside0.mk hy847
        clear hy847
        obtain ⟨y848, hy848⟩ : ∃ y_ : List Int, y_ = (y847.set (t840 : Int).toNat x6_1) := ⟨_, rfl⟩
        replace H : (spec_l02Draw.l0 k1 a1 y848 (wrap64 (x6_1 + 1)) s0_0 t841 t842) = some (r1, r2, r3) := by first | (rw [hy848]; exact H) | exact H
        have Ny848 := Aside0.mk hy848
        clear hy848
        have H' := Aside0.mk H
        clear H
        go_wp2_with (first | ((with_reducible refine gate_callee (f := 72) rfl ?_); refine gL_ (some 17) Try.func72 #[.pointer (some ⟨g, 0, none⟩), .int .i64 (wrap64 (x6_1 + 1))] rfl qa_ ?_; (with_reducible refine (spec_l01Below.calls g s0_0 x1001_1 x1002_1 (wrap64 (x6_1 + 1)) t840 t841 t842 w0 _ ?side1 ?side2 A6.out).mono ?_); (case side1 => repeat (first | (with_reducible first | exact HI0.out | apply IsS105.alloc | apply IsS105.drewN | apply IsS105.drew | apply IsS105.set_1 | apply IsS105.set_2) | exact HI0.out)); (case side2 => repeat (first | (with_reducible first | exact HB.out | apply below_alloc | apply pw_below_drewN | apply below_drew1 | refine below_set ?_ (IsS105.ge HI0.out)) | exact HB.out)); rintro e w14 ⟨rfl, hi, hb, hk⟩; refine ⟨_, rfl, ?_⟩; replace HO_5 := Aside0.mk (Kd.R_mono (Kd.R_keep (IsS105.apart (show IsS105 w0 _ g s0_0 x1001_1 x1002_1 from hI_IsS105_HI0) (rr_ HO_5) (by decide)) hk (fun _ h => h.2)) (fun _ h => h.1)); replace HK := Aside0.mk (KeepBut.trans hK_ hk (.inl rfl)); replace HB := Aside0.mk hb; replace HI0 := Aside0.mk hi; clear hb hk hi) | ((with_reducible refine gate_builtin (b := .append) (xs := #[.tmp 18, .tmp 20]) rfl ?_); at_builtin; refine Kd.R_append (Kd.int .i64) w.heap.size rfl (.tmp 18) (.tmp 20) 22 3 (.int .i64 0) 8 rfl Try.underlying22 info3 rfl (by decide) (by omega) u5 x5_1 x6_1 [.int .i64 x6_1] (fun _ => True) (fun _ => False) rfl rfl ?aP (fun _ hk => hk.elim) ?aF ?aO (Below.refl _ _) ?aS ?aL ?_; (case aP => exact rfl); (case aF => exact (fun _ _ => trivial)); (case aO => exact (rr_ HO_5)); (case aS => exact (keep_size (w := w) (g := g) (row := none) hK_)); (case aL => have := LMc7.out; omega); intro v844 w15 ho hb hg hat; rw [← Ny843.out] at ho; replace HB := Aside0.mk (below_weaken hBI_ HL.out hb); replace HI0 := Aside0.mk (IsS105.grown hI_IsS105_HI0 hg (IsS105.own_ne HI0.out HO_5.out (by decide))); replace HK := Aside0.mk (KeepBut.trans hK_ (KeepBut.of_grown hg g) (Kd.R_base2 HO_5.out)); have HO845 := Aside0.mk ho; clear HO_5; clear ho hb hg hat; obtain ⟨Ao16, co16, eo16⟩ := Kd.R_slice HO845.out; subst eo16; have p846 : 0 ≤ (t840 : Int) := of_decide_eq_true qe_; have q846 : t840 < (y843.length : Int) := of_decide_eq_true qe_; obtain ⟨ad846, e846, hx846_0⟩ := Kd.at_int (Kd.R_reads' HO845.out).2.2 t840 p846 q846; cases e846; replace p846 := eq_true p846; replace q846 := eq_true q846; have p12 : 0 ≤ (x6_1 : Int) := of_decide_eq_true qe_; have q12 : (x6_1 : Int) < ((y843.length : Int) : Int) := of_decide_eq_true qe_; obtain ⟨go12, co12, eo12, gb12, gl12, cl12, HG12⟩ := Kd.R_form HO845.out (by omega); (first | cases eo12 | (injection eo12 with ea_ en_ ec_; (first | subst ea_ | (injection ea_ with ea_; subst ea_)); subst ec_; clear en_)); have GB12 := Aside0.mk gb12; have GG12 := Aside0.mk HG12; clear gb12 gl12 HG12; (first | simp only [add_plain] at hx846_0 | skip); obtain ⟨hx12_0, hf12_0⟩ := Kd.R_celln 0 HO845.out (x6_1 : Int) p12 q12; replace p12 := eq_true p12; replace q12 := eq_true q12; obtain ⟨hy17_, hz17_⟩ := Kd.R_celln 0 HO845.out (x6_1 : Int) (of_decide_eq_true qe_) (of_decide_eq_true qe_); have HP17 := Kd.R_putg HO845.out (x6_1 : Int) (rd y843 t840)) | ((with_reducible refine gate_store (t := 3) (p := 28) rfl ?_); refine store_event (t := 3) (p := 28) (v := ?vo_w18) (w1 := (w15.setCell ⟨go12, (x6_1 : Int).toNat, none⟩ (.int .i64 (rd y843 t840)))) ?hg ?ho ?hn ?hr ?_; (case ho => rfl); (case hg => rfl); (case hn => rfl); (case hr => first | (go_simp; done) | (go_simp; rfl)); intro w18 hw; have hg : w15.grownBy w18 (some go12) := (by rw [hw]; exact HP17.2); have hp_ : Kd.R (Kd.int .i64) 3 w18 w.heap.size (fun _ => True) (.slice (some ⟨go12, 0, none⟩) y843.length co16) y847 := (by rw [hw, Ny847.out]; exact HP17.1); clear HP17; replace HI0 := Aside0.mk (IsS105.grown hI_IsS105_HI0 hg (IsS105.own_ne HI0.out HO845.out (by decide))); replace HB := Aside0.mk ((by rw [hw]; exact below_set (HB.out) (Nat.le_trans HL.out GB12.out) : Below w0.heap.size w0 w18)); replace HK := Aside0.mk (KeepBut.trans hK_ (KeepBut.of_grown hg g) (Kd.R_base2 HO845.out)); replace HO845 := Aside0.mk (hp_); clear hg hw hp_; have p13 : 0 ≤ (t840 : Int) := of_decide_eq_true qe_; have q13 : (t840 : Int) < ((y843.length : Int) : Int) := of_decide_eq_true qe_; obtain ⟨hx13_0, hf13_0⟩ := Kd.R_celln 0 HO845.out (t840 : Int) p13 q13; replace p13 := eq_true p13; replace q13 := eq_true q13; obtain ⟨hy19_, hz19_⟩ := Kd.R_celln 0 HO845.out (t840 : Int) (of_decide_eq_true qe_) (of_decide_eq_true qe_); have HP19 := Kd.R_putg HO845.out (t840 : Int) x6_1) | ((with_reducible refine gate_store (t := 3) (p := 32) rfl ?_); refine store_event (t := 3) (p := 32) (v := ?vo_w20) (w1 := (w18.setCell ⟨go12, (t840 : Int).toNat, none⟩ (.int .i64 x6_1))) ?hg ?ho ?hn ?hr ?_; (case ho => rfl); (case hg => rfl); (case hn => rfl); (case hr => first | (go_simp; done) | (go_simp; rfl)); intro w20 hw; have hg : w18.grownBy w20 (some go12) := (by rw [hw]; exact HP19.2); have hp_ : Kd.R (Kd.int .i64) 3 w20 w.heap.size (fun _ => True) (.slice (some ⟨go12, 0, none⟩) y843.length co16) y848 := (by rw [hw, Ny848.out]; exact HP19.1); clear HP19; replace HI0 := Aside0.mk (IsS105.grown hI_IsS105_HI0 hg (IsS105.own_ne HI0.out HO845.out (by decide))); replace HB := Aside0.mk ((by rw [hw]; exact below_set (HB.out) (Nat.le_trans HL.out GB12.out) : Below w0.heap.size w0 w20)); replace HK := Aside0.mk (KeepBut.trans hK_ (KeepBut.of_grown hg g) (Kd.R_base2 HO845.out)); replace HO845 := Aside0.mk (hp_); clear hg hw hp_))
        go_roundg k1
        case measure => have := HK1.out; omega
        case rel => exact ⟨(y848), (wrap64 (x6_1 + 1)), (t841), (t842), qc_, H', ⟨by have := HK1.out; omega⟩, ⟨(rr_ HO845)⟩, ⟨hI_IsS105_HI0⟩, ⟨hK_⟩, ⟨hBI_⟩⟩
      · rw [if_neg c5] at H
        have c5b0 := decide_eq_false c5
        clear c5
        simp only [Option.some.injEq, Prod.mk.injEq] at H
        obtain ⟨rfl, rfl, rfl⟩ := H
        go_wp2
        go_ret
        exact ⟨_, qb_, (rr_ HO_5), hI_IsS105_HI0, hBI_, hK_⟩
end Go.Proofs.Ytbdnellgioimbaa.A
end
section
namespace Go.Proofs.Ytbdnellgioimbaa.A
open Go.RowKit Go.Proofs.YtbdnellgioimbaaW.PrintWords Go.Proofs.YtbdnellgioimbaaW.PrintLast Go.Proofs.YtbdnellgioimbaaW.PrintMore
attribute [local go_sem] max2_int min2_int max_two min_two max_three min_three max_four min_four
set_option linter.unusedVariables false
set_option linter.unusedSimpArgs false
def spec_l03Draw.l0 : Nat → Int → Int → List Int → Int → Int → Option (List Int × List Int × Int × Int)
  | 0, _, _, _, _, _ => none
  | k + 1, x5, x6, x1000, x1001, x1002 => if x6 < 8 then ((spec_l02Draw.f k x1000 x1001 x1002 x5).bind fun bt861 => ((spec_l02Draw.f k x1000 bt861.2.1 bt861.2.2 x5).bind fun bt866 => ((spec_SurfaceOk.f k bt861.1 bt866.1).bind fun t872 => (if t872 = true then (some (bt861.1, bt866.1, bt866.2.1, bt866.2.2)) else (spec_l03Draw.l0 k x5 (wrap64 (x6 + 1)) x1000 bt866.2.1 bt866.2.2))))) else ((spec_EllOf.f k x5 1).bind fun bt853 => (some (bt853.1, bt853.2.1, x1001, x1002)))
def spec_l03Draw.f (k : Nat) (s0_0 : List Int) (s0_1 : Int) (s0_2 : Int) (a1 : Int) : Option (List Int × List Int × Int × Int) := (spec_l01Below.f s0_0 s0_1 s0_2 a1).bind fun bt850 => (spec_l03Draw.l0 k (wrap64 (1 + bt850.1)) 0 s0_0 bt850.2.1 bt850.2.2)
theorem spec_l03Draw.mono_l : ∀ k, (∀ y0 y1 y2 y3 y4, LeO (spec_l03Draw.l0 k y0 y1 y2 y3 y4) (spec_l03Draw.l0 (k + 1) y0 y1 y2 y3 y4))
  | 0 => fun _ _ _ _ _ r h => by simp [spec_l03Draw.l0] at h
  | k + 1 => by
    have ih0 := spec_l03Draw.mono_l k
    · intro y0 y1 y2 y3 y4
      unfold spec_l03Draw.l0
      repeat' first|exact ih0 _ _ _ _ _|exact spec_EllOf.mono _ _ _|exact spec_SurfaceOk.mono _ _ _|exact spec_l02Draw.mono _ _ _ _ _|exact lo_|refine LeO.ite ?_ ?_|refine LeO.bind ?_ (fun _ => ?_)
theorem spec_l03Draw.mono : ∀ a0 a1 a2 a3 k, LeO (spec_l03Draw.f k a0 a1 a2 a3) (spec_l03Draw.f (k + 1) a0 a1 a2 a3) := by
  intro a0 a1 a2 a3 k
  have ih0 := spec_l03Draw.mono_l k
  unfold spec_l03Draw.f
  repeat' first|exact ih0 _ _ _ _ _|exact spec_EllOf.mono _ _ _|exact spec_SurfaceOk.mono _ _ _|exact spec_l02Draw.mono _ _ _ _ _|exact lo_|refine LeO.ite ?_ ?_|refine LeO.bind ?_ (fun _ => ?_)
set_option maxHeartbeats 8000000 in
set_option maxRecDepth 100000 in
theorem spec_l03Draw.calls (k : Nat) (g : Nat) (s0_0 : List Int) (s0_1 : Int) (s0_2 : Int) (a1 : Int) (r1 : List Int) (r2 : List Int) (r3 : Int) (r4 : Int) (w0 w : World) (hI : IsS105 w0 w g s0_0 s0_1 s0_2) (hB : Below w0.heap.size w0 w) (h : spec_l03Draw.f k s0_0 s0_1 s0_2 a1 = some (r1, r2, r3, r4)) :
    Calls Try.prog 76 #[.pointer (some ⟨g, 0, none⟩), .int .i64 a1] w fun e w' => ∃ v0_ v1_ : Value, e = .returned (.agg #[v0_, v1_]) ∧ Kd.R (Kd.int .i64) 3 w' w.heap.size (fun k_ => some k_ ≠ (v1_ : Value).ownBlock) v0_ r1 ∧ Kd.R (Kd.int .i64) 3 w' w.heap.size (fun k_ => some k_ ≠ (v0_ : Value).ownBlock) v1_ r2 ∧ IsS105 w0 w' g s0_0 r3 r4 ∧ Below w0.heap.size w0 w' ∧ KeepBut w w' g none := by
  have hu27 := Try.underlying27
  have HI0 := Aside0.mk hI
  have HK := Aside0.mk (KeepBut.refl w g none)
  have HL := Aside0.mk hB.size
  clear hI
  have HW0 := Aside0.mk hB.size
  have HB := Aside0.mk hB
  clear hB
  have H := h
  unfold spec_l03Draw.f at H
  clear h
  obtain ⟨⟨t850, t851, t852⟩, A3, H⟩ := bi_ H
  try dsimp only at H
  have H' := Aside0.mk H
  clear H
  go_enter Try.func76, Try.ntmps76
  go_wp2_with (first | ((with_reducible refine gate_dst (N := 4) rfl ?_); refine bx_ 4 #[.slice none 0 0, .slice none 0 0] 27 ?_; intro gb849 hg w4 hbox hb; replace HB := b2_ hb; have BK849 := Aside0.mk hbox; have GW849 := Aside0.mk ((gx_ hg (keep_size (w := w) (g := g) (row := none) hK_) : w.heap.size ≤ gb849)); have GE849 := Aside0.mk ((Nat.le_trans HW0.out (gx_ hg (keep_size (w := w) (g := g) (row := none) hK_) : w.heap.size ≤ gb849) : w0.heap.size ≤ gb849)); replace HK := Aside0.mk (KeepBut.trans hK_ (KeepBut.of_below hb g none) (.inl rfl)); have NB0_849 := Aside0.mk ((gn_ hg (IsS105.lt (show IsS105 w0 _ g s0_0 s0_1 s0_2 from hI_IsS105_HI0)) : g ≠ gb849)); have NB849_0 := Aside0.mk ((gp_ hg (IsS105.lt (show IsS105 w0 _ g s0_0 s0_1 s0_2 from hI_IsS105_HI0)) : gb849 ≠ g)); replace HI0 := Aside0.mk (IsS105.below hI_IsS105_HI0 hb); clear hb hbox hg) | ((with_reducible refine gate_callee (f := 72) rfl ?_); refine gL_ (some 12) Try.func72 #[.pointer (some ⟨g, 0, none⟩), .int .i64 a1] rfl qa_ ?_; (with_reducible refine (spec_l01Below.calls g s0_0 s0_1 s0_2 a1 t850 t851 t852 w0 _ ?side1 ?side2 A3.out).mono ?_); (case side1 => repeat (first | (with_reducible first | exact HI0.out | apply IsS105.alloc | apply IsS105.drewN | apply IsS105.drew | apply IsS105.set_1 | apply IsS105.set_2 | refine IsS105.far ?_ NB0_849.out _) | exact HI0.out)); (case side2 => repeat (first | (with_reducible first | exact HB.out | apply below_alloc | apply pw_below_drewN | apply below_drew1 | refine below_set ?_ (IsS105.ge HI0.out) | refine below_set ?_ GE849.out) | exact HB.out)); rintro e w5 ⟨rfl, hi, hb, hk⟩; refine ⟨_, rfl, ?_⟩; replace BK849 := Aside0.mk (KeepBut.blk hk (kk_ BK849) NB849_0.out (by simp)); replace HK := Aside0.mk (KeepBut.trans hK_ hk (.inl rfl)); replace HB := Aside0.mk hb; replace HI0 := Aside0.mk hi; clear hb hk hi))
  go_loopg [6] k (fun kq v6 w' => ∃ (x6_1 : Int) (x1001_1 : Int) (x1002_1 : Int), v6 = .int .i64 x6_1 ∧ Aside0 (spec_l03Draw.l0 kq (wrap64 (1 + t850)) x6_1 s0_0 x1001_1 x1002_1 = some (r1, r2, r3, r4)) ∧ Aside0 (kq ≤ k) ∧ Aside0 (w'.heap[gb849]? = some (.cells #[(.slice none 0 0), (.slice none 0 0)] 27 (0, 0))) ∧ Aside0 (IsS105 w0 w' g s0_0 x1001_1 x1002_1) ∧ Aside0 (KeepBut w w' g none) ∧ Aside0 (Below w0.heap.size w0 w'))
  case atStart => exact ⟨(0), (t851), (t852), qc_, H', ⟨Nat.le_refl _⟩, ⟨(kk_ BK849)⟩, ⟨hI_IsS105_HI0⟩, ⟨hK_⟩, ⟨hBI_⟩⟩
  case round =>
    clear H'
    obtain ⟨x6_1, x1001_1, x1002_1, rfl, HA, HK1, BK849, HI0, HK, HB⟩ := hrel
    cases gk with
    | zero => exact absurd HA.out (by simp [spec_l03Draw.l0])
    | succ k1 =>
      have H := HA.out
      clear HA
      simp only [spec_l03Draw.l0] at H
      by_cases c6 : x6_1 < 8
      · rw [if_pos c6] at H
        have c6b0 := decide_eq_true c6
        clear c6
        obtain ⟨⟨t861, t864, t865⟩, A7, H⟩ := bi_ H
        try dsimp only at H
        obtain ⟨⟨t866, t869, t870⟩, A8, H⟩ := bi_ H
        try dsimp only at H
        obtain ⟨t872, A9, H⟩ := bi_ H
        by_cases c10 : t872 = true
        · subst c10
          rw [if_pos rfl] at H
          simp only [Option.some.injEq, Prod.mk.injEq] at H
          obtain ⟨rfl, rfl, rfl, rfl⟩ := H
          go_wp2_with (first | ((with_reducible refine gate_callee (f := 117) rfl ?_); refine gL_ (some 20) Try.func117 #[.pointer (some ⟨g, 0, none⟩), .int .i64 (wrap64 (1 + t850))] rfl qa_ ?_; (with_reducible refine (spec_l02Draw.calls k1 g s0_0 x1001_1 x1002_1 (wrap64 (1 + t850)) t861 t864 t865 w0 _ ?side1 ?side2 A7.out).mono ?_); (case side1 => repeat (first | (with_reducible first | exact HI0.out | apply IsS105.alloc | apply IsS105.drewN | apply IsS105.drew | apply IsS105.set_1 | apply IsS105.set_2 | refine IsS105.far ?_ NB0_849.out _) | exact HI0.out)); (case side2 => repeat (first | (with_reducible first | exact HB.out | apply below_alloc | apply pw_below_drewN | apply below_drew1 | refine below_set ?_ (IsS105.ge HI0.out) | refine below_set ?_ GE849.out) | exact HB.out)); rintro e w11 ⟨v862, rfl, ho0, hi, hb, hk⟩; refine ⟨_, rfl, ?_⟩; replace BK849 := Aside0.mk (KeepBut.blk hk (kk_ BK849) NB849_0.out (by simp)); have HO863 := Aside0.mk (Kd.R_lower ho0 (keep_size (w := w) (g := g) (row := none) hK_)); replace HK := Aside0.mk (KeepBut.trans hK_ hk (.inl rfl)); replace HB := Aside0.mk hb; replace HI0 := Aside0.mk hi; clear hb hk hi ho0) | ((with_reducible refine gate_callee (f := 117) rfl ?_); refine gL_ (some 23) Try.func117 #[.pointer (some ⟨g, 0, none⟩), .int .i64 (wrap64 (1 + t850))] rfl qa_ ?_; (with_reducible refine (spec_l02Draw.calls k1 g s0_0 t864 t865 (wrap64 (1 + t850)) t866 t869 t870 w0 _ ?side1 ?side2 A8.out).mono ?_); (case side1 => repeat (first | (with_reducible first | exact HI0.out | apply IsS105.alloc | apply IsS105.drewN | apply IsS105.drew | apply IsS105.set_1 | apply IsS105.set_2 | refine IsS105.far ?_ NB0_849.out _) | exact HI0.out)); (case side2 => repeat (first | (with_reducible first | exact HB.out | apply below_alloc | apply pw_below_drewN | apply below_drew1 | refine below_set ?_ (IsS105.ge HI0.out) | refine below_set ?_ GE849.out) | exact HB.out)); rintro e w12 ⟨v867, rfl, ho0, hi, hb, hk⟩; refine ⟨_, rfl, ?_⟩; replace BK849 := Aside0.mk (KeepBut.blk hk (kk_ BK849) NB849_0.out (by simp)); have HO868 := Aside0.mk (Kd.R_lower (Kd.R_new' ho0 (Kd.R_lt (rr_ HO863))) (keep_size (w := w) (g := g) (row := none) hK_)); replace HO863 := Aside0.mk (Kd.R_mono (Kd.R_told (Kd.R_oldK (IsS105.apart (show IsS105 w0 _ g s0_0 t864 t865 from hI_IsS105_HI0) (rr_ HO863) (by decide)) hk) (Kd.R_base ho0)) (fun _ h_ => h_.1)); replace HK := Aside0.mk (KeepBut.trans hK_ hk (.inl rfl)); replace HB := Aside0.mk hb; replace HI0 := Aside0.mk hi; clear hb hk hi ho0; obtain ⟨Ao13, co13, eo13⟩ := Kd.R_slice HO868.out; subst eo13; obtain ⟨Ao14, co14, eo14⟩ := Kd.R_slice HO863.out; subst eo14) | ((with_reducible refine gate_dst (N := 7) rfl ?_); refine bx_ 7 #[.slice none 0 0, .slice none 0 0] 27 ?_; intro gb871 hg w15 hbox hb; replace HO863 := rb_ HO863 hb; replace HO868 := rb_ HO868 hb; replace HB := b2_ hb; have BK871 := Aside0.mk hbox; have GW871 := Aside0.mk ((gx_ hg (keep_size (w := w) (g := g) (row := none) hK_) : w.heap.size ≤ gb871)); have GE871 := Aside0.mk ((Nat.le_trans HW0.out (gx_ hg (keep_size (w := w) (g := g) (row := none) hK_) : w.heap.size ≤ gb871) : w0.heap.size ≤ gb871)); replace HK := Aside0.mk (KeepBut.trans hK_ (KeepBut.of_below hb g none) (.inl rfl)); have NB849_871 := gN_ BK849 hg; have NB871_849 := gP_ BK849 hg; replace BK849 := bb_ BK849 hb; have NB0_871 := Aside0.mk ((gn_ hg (IsS105.lt (show IsS105 w0 _ g s0_0 t869 t870 from hI_IsS105_HI0)) : g ≠ gb871)); have NB871_0 := Aside0.mk ((gp_ hg (IsS105.lt (show IsS105 w0 _ g s0_0 t869 t870 from hI_IsS105_HI0)) : gb871 ≠ g)); replace HI0 := Aside0.mk (IsS105.below hI_IsS105_HI0 hb); clear hb hbox hg; have hnb16 := NB871_849.out; have hnc16 := NB849_871.out; have hnb17 := NB871_0.out; have hnc17 := NB0_871.out; obtain ⟨hcz18_0, hcz18_1, hfz18_0, hfz18_1⟩ := c2_ BK871) | ((with_reducible refine gate_callee (f := 63) rfl ?_); refine gL_ (some 26) Try.func63 #[.agg #[.slice Ao14 t861.length co14, .slice Ao13 t866.length co13]] rfl qa_ ?_; (with_reducible refine (spec_SurfaceOk.calls k1 _ _ t861 _ _ t866 true _ ?side1 ?side2 ?side3 ?side4 A9.out).mono ?_); (case side1 => refine (Kd.R_reads' (e := 3) (base := w.heap.size) (ok := fun k_ => (True ∧ some k_ ≠ (.slice Ao13 t866.length co13 : Value).ownBlock)) (n := t861.length) (c := co14) ?_).2.2; exact (rw_ (fa_ HO863 BK871))); (case side2 => exact (Kd.R_reads' HO863.out).2.1); (case side3 => refine (Kd.R_reads' (e := 3) (base := w.heap.size) (ok := fun k_ => (True ∧ some k_ ≠ (.slice Ao14 t861.length co14 : Value).ownBlock)) (n := t866.length) (c := co13) ?_).2.2; exact (rw_ (fa_ HO868 BK871))); (case side4 => exact (Kd.R_reads' HO868.out).2.1); rintro e w19 ⟨rfl, hb⟩; refine ⟨_, rfl, ?_⟩; replace HO863 := Aside0.mk (Kd.R_below (rw_ (fa_ HO863 BK871)) hb); replace HO868 := Aside0.mk (Kd.R_below (rw_ (fa_ HO868 BK871)) hb); replace BK849 := Aside0.mk (blk_below (g := gb849) (o := .cells #[.slice none 0 0, .slice none 0 0] 27 (0, 0)) (by (with_reducible repeat (first | refine blk_drewN ?_ _ | refine blk_drew ?_ | refine blk_alloc ?_ _)); refine blk_far ?_ NB849_871.out _; (with_reducible repeat (first | refine blk_drewN ?_ _ | refine blk_drew ?_ | refine blk_alloc ?_ _)); refine blk_far ?_ NB849_871.out _; (with_reducible repeat (first | refine blk_drewN ?_ _ | refine blk_drew ?_ | refine blk_alloc ?_ _)); exact BK849.out) hb); replace BK871 := Aside0.mk (blk_below (g := gb871) (o := .cells #[.slice Ao14 t861.length co14, .slice Ao13 t866.length co13] 27 (0, 0)) qp_ hb); replace HK := Aside0.mk (KeepBut.trans hK_ (KeepBut.of_below hb g none) (.inl rfl)); replace HB := b2_ hb; replace HI0 := Aside0.mk (IsS105.below (show IsS105 w0 ((w15.setCell ⟨gb871, 0, none⟩ (.slice Ao14 t861.length co14)).setCell ⟨gb871, 1, none⟩ (.slice Ao13 t866.length co13)) g s0_0 t869 t870 from hI_IsS105_HI0) hb); clear hb; obtain ⟨hcz20_0, hcz20_1, hfz20_0, hfz20_1⟩ := c2_ BK871; have hnb21 := NB849_0.out; have hnc21 := NB0_849.out; obtain ⟨hcz22_0, hcz22_1, hfz22_0, hfz22_1⟩ := c2_ BK849))
          refine bodyPost_ret (results_cell_row rfl _ _ gb849 27 #[.slice Ao14 t861.length co14, .slice Ao13 t866.length co13] (0, 0) _ rfl qp_ Try.underlying27 rfl (by kernel_rfl)) rfl ?_
          exact ⟨_, _, qb_, (rw_ (Kd.R_mono (fa_ HO863 BK849) (fun _ hk => hk.2))), (rw_ (Kd.R_mono (fa_ HO868 BK849) (fun _ hk => hk.2))), hI_IsS105_HI0, hBI_, hK_⟩
        · replace c10 := Bool.eq_false_iff.mpr c10
          subst c10
          have H1 : (spec_l03Draw.l0 k1 (wrap64 (1 + t850)) (wrap64 (x6_1 + 1)) s0_0 t869 t870) = some (r1, r2, r3, r4) := by rw [if_neg (show ¬ (false = true) by decide)] at H; exact H
          clear H
          have H := H1
          clear H1
          have H' := Aside0.mk H
          clear H
          go_wp2_with (first | ((with_reducible refine gate_callee (f := 117) rfl ?_); refine gL_ (some 20) Try.func117 #[.pointer (some ⟨g, 0, none⟩), .int .i64 (wrap64 (1 + t850))] rfl qa_ ?_; (with_reducible refine (spec_l02Draw.calls k1 g s0_0 x1001_1 x1002_1 (wrap64 (1 + t850)) t861 t864 t865 w0 _ ?side1 ?side2 A7.out).mono ?_); (case side1 => repeat (first | (with_reducible first | exact HI0.out | apply IsS105.alloc | apply IsS105.drewN | apply IsS105.drew | apply IsS105.set_1 | apply IsS105.set_2 | refine IsS105.far ?_ NB0_849.out _) | exact HI0.out)); (case side2 => repeat (first | (with_reducible first | exact HB.out | apply below_alloc | apply pw_below_drewN | apply below_drew1 | refine below_set ?_ (IsS105.ge HI0.out) | refine below_set ?_ GE849.out) | exact HB.out)); rintro e w23 ⟨v862, rfl, ho0, hi, hb, hk⟩; refine ⟨_, rfl, ?_⟩; replace BK849 := Aside0.mk (KeepBut.blk hk (kk_ BK849) NB849_0.out (by simp)); have HO863 := Aside0.mk (Kd.R_lower ho0 (keep_size (w := w) (g := g) (row := none) hK_)); replace HK := Aside0.mk (KeepBut.trans hK_ hk (.inl rfl)); replace HB := Aside0.mk hb; replace HI0 := Aside0.mk hi; clear hb hk hi ho0) | ((with_reducible refine gate_callee (f := 117) rfl ?_); refine gL_ (some 23) Try.func117 #[.pointer (some ⟨g, 0, none⟩), .int .i64 (wrap64 (1 + t850))] rfl qa_ ?_; (with_reducible refine (spec_l02Draw.calls k1 g s0_0 t864 t865 (wrap64 (1 + t850)) t866 t869 t870 w0 _ ?side1 ?side2 A8.out).mono ?_); (case side1 => repeat (first | (with_reducible first | exact HI0.out | apply IsS105.alloc | apply IsS105.drewN | apply IsS105.drew | apply IsS105.set_1 | apply IsS105.set_2 | refine IsS105.far ?_ NB0_849.out _) | exact HI0.out)); (case side2 => repeat (first | (with_reducible first | exact HB.out | apply below_alloc | apply pw_below_drewN | apply below_drew1 | refine below_set ?_ (IsS105.ge HI0.out) | refine below_set ?_ GE849.out) | exact HB.out)); rintro e w24 ⟨v867, rfl, ho0, hi, hb, hk⟩; refine ⟨_, rfl, ?_⟩; replace BK849 := Aside0.mk (KeepBut.blk hk (kk_ BK849) NB849_0.out (by simp)); have HO868 := Aside0.mk (Kd.R_lower (Kd.R_new' ho0 (Kd.R_lt (rr_ HO863))) (keep_size (w := w) (g := g) (row := none) hK_)); replace HO863 := Aside0.mk (Kd.R_mono (Kd.R_told (Kd.R_oldK (IsS105.apart (show IsS105 w0 _ g s0_0 t864 t865 from hI_IsS105_HI0) (rr_ HO863) (by decide)) hk) (Kd.R_base ho0)) (fun _ h_ => h_.1)); replace HK := Aside0.mk (KeepBut.trans hK_ hk (.inl rfl)); replace HB := Aside0.mk hb; replace HI0 := Aside0.mk hi; clear hb hk hi ho0; obtain ⟨Ao25, co25, eo25⟩ := Kd.R_slice HO868.out; subst eo25; obtain ⟨Ao26, co26, eo26⟩ := Kd.R_slice HO863.out; subst eo26) | ((with_reducible refine gate_dst (N := 7) rfl ?_); refine bx_ 7 #[.slice none 0 0, .slice none 0 0] 27 ?_; intro gb871 hg w27 hbox hb; replace HO863 := rb_ HO863 hb; replace HO868 := rb_ HO868 hb; replace HB := b2_ hb; have BK871 := Aside0.mk hbox; have GW871 := Aside0.mk ((gx_ hg (keep_size (w := w) (g := g) (row := none) hK_) : w.heap.size ≤ gb871)); have GE871 := Aside0.mk ((Nat.le_trans HW0.out (gx_ hg (keep_size (w := w) (g := g) (row := none) hK_) : w.heap.size ≤ gb871) : w0.heap.size ≤ gb871)); replace HK := Aside0.mk (KeepBut.trans hK_ (KeepBut.of_below hb g none) (.inl rfl)); have NB849_871 := gN_ BK849 hg; have NB871_849 := gP_ BK849 hg; replace BK849 := bb_ BK849 hb; have NB0_871 := Aside0.mk ((gn_ hg (IsS105.lt (show IsS105 w0 _ g s0_0 t869 t870 from hI_IsS105_HI0)) : g ≠ gb871)); have NB871_0 := Aside0.mk ((gp_ hg (IsS105.lt (show IsS105 w0 _ g s0_0 t869 t870 from hI_IsS105_HI0)) : gb871 ≠ g)); replace HI0 := Aside0.mk (IsS105.below hI_IsS105_HI0 hb); clear hb hbox hg; have hnb28 := NB871_849.out; have hnc28 := NB849_871.out; have hnb29 := NB871_0.out; have hnc29 := NB0_871.out; obtain ⟨hcz30_0, hcz30_1, hfz30_0, hfz30_1⟩ := c2_ BK871) | ((with_reducible refine gate_callee (f := 63) rfl ?_); refine gL_ (some 26) Try.func63 #[.agg #[.slice Ao26 t861.length co26, .slice Ao25 t866.length co25]] rfl qa_ ?_; (with_reducible refine (spec_SurfaceOk.calls k1 _ _ t861 _ _ t866 false _ ?side1 ?side2 ?side3 ?side4 A9.out).mono ?_); (case side1 => refine (Kd.R_reads' (e := 3) (base := w.heap.size) (ok := fun k_ => (True ∧ some k_ ≠ (.slice Ao25 t866.length co25 : Value).ownBlock)) (n := t861.length) (c := co26) ?_).2.2; exact (rw_ (fa_ HO863 BK871))); (case side2 => exact (Kd.R_reads' HO863.out).2.1); (case side3 => refine (Kd.R_reads' (e := 3) (base := w.heap.size) (ok := fun k_ => (True ∧ some k_ ≠ (.slice Ao26 t861.length co26 : Value).ownBlock)) (n := t866.length) (c := co25) ?_).2.2; exact (rw_ (fa_ HO868 BK871))); (case side4 => exact (Kd.R_reads' HO868.out).2.1); rintro e w31 ⟨rfl, hb⟩; refine ⟨_, rfl, ?_⟩; replace HO863 := Aside0.mk (Kd.R_below (rw_ (fa_ HO863 BK871)) hb); replace HO868 := Aside0.mk (Kd.R_below (rw_ (fa_ HO868 BK871)) hb); replace BK849 := Aside0.mk (blk_below (g := gb849) (o := .cells #[.slice none 0 0, .slice none 0 0] 27 (0, 0)) (by (with_reducible repeat (first | refine blk_drewN ?_ _ | refine blk_drew ?_ | refine blk_alloc ?_ _)); refine blk_far ?_ NB849_871.out _; (with_reducible repeat (first | refine blk_drewN ?_ _ | refine blk_drew ?_ | refine blk_alloc ?_ _)); refine blk_far ?_ NB849_871.out _; (with_reducible repeat (first | refine blk_drewN ?_ _ | refine blk_drew ?_ | refine blk_alloc ?_ _)); exact BK849.out) hb); replace BK871 := Aside0.mk (blk_below (g := gb871) (o := .cells #[.slice Ao26 t861.length co26, .slice Ao25 t866.length co25] 27 (0, 0)) qp_ hb); replace HK := Aside0.mk (KeepBut.trans hK_ (KeepBut.of_below hb g none) (.inl rfl)); replace HB := b2_ hb; replace HI0 := Aside0.mk (IsS105.below (show IsS105 w0 ((w27.setCell ⟨gb871, 0, none⟩ (.slice Ao26 t861.length co26)).setCell ⟨gb871, 1, none⟩ (.slice Ao25 t866.length co25)) g s0_0 t869 t870 from hI_IsS105_HI0) hb); clear hb))
          go_roundg k1
          case measure => have := HK1.out; omega
          case rel => exact ⟨(wrap64 (x6_1 + 1)), (t869), (t870), qc_, H', ⟨by have := HK1.out; omega⟩, ⟨(kk_ BK849)⟩, ⟨hI_IsS105_HI0⟩, ⟨hK_⟩, ⟨hBI_⟩⟩
      · rw [if_neg c6] at H
        have c6b0 := decide_eq_false c6
        clear c6
        obtain ⟨⟨t853, t856, t859⟩, A32, H⟩ := bi_ H
        try dsimp only at H
        simp only [Option.some.injEq, Prod.mk.injEq] at H
        obtain ⟨rfl, rfl, rfl, rfl⟩ := H
        go_wp2_with (first | ((with_reducible refine gate_callee (f := 75) rfl ?_); refine gL_ (some 30) Try.func75 #[.int .i64 (wrap64 (1 + t850)), .int .i64 1] rfl qa_ ?_; (with_reducible refine (spec_EllOf.calls k1 (wrap64 (1 + t850)) 1 t853 t856 t859 _ A32.out).mono ?_); rintro e w33 ⟨v854, v857, rfl, ho0, ho1, hb⟩; refine ⟨_, rfl, ?_⟩; have HO855 := Aside0.mk (Kd.R_lower ho0 (keep_size (w := w) (g := g) (row := none) hK_)); have HO858 := Aside0.mk (Kd.R_lower ho1 (keep_size (w := w) (g := g) (row := none) hK_)); replace BK849 := bb_ BK849 hb; replace HK := Aside0.mk (KeepBut.trans hK_ (KeepBut.of_below hb g none) (.inl rfl)); replace HB := b2_ hb; replace HI0 := Aside0.mk (IsS105.below hI_IsS105_HI0 hb); clear hb ho0 ho1) | ((with_reducible refine gate_dst (N := 8) rfl ?_); refine bx_ 8 #[.slice none 0 0, .slice none 0 0] 27 ?_; intro gb860 hg w34 hbox hb; replace HO855 := rb_ HO855 hb; replace HO858 := rb_ HO858 hb; replace HB := b2_ hb; have BK860 := Aside0.mk hbox; have GW860 := Aside0.mk ((gx_ hg (keep_size (w := w) (g := g) (row := none) hK_) : w.heap.size ≤ gb860)); have GE860 := Aside0.mk ((Nat.le_trans HW0.out (gx_ hg (keep_size (w := w) (g := g) (row := none) hK_) : w.heap.size ≤ gb860) : w0.heap.size ≤ gb860)); replace HK := Aside0.mk (KeepBut.trans hK_ (KeepBut.of_below hb g none) (.inl rfl)); have NB849_860 := gN_ BK849 hg; have NB860_849 := gP_ BK849 hg; replace BK849 := bb_ BK849 hb; have NB0_860 := Aside0.mk ((gn_ hg (IsS105.lt (show IsS105 w0 _ g s0_0 x1001_1 x1002_1 from hI_IsS105_HI0)) : g ≠ gb860)); have NB860_0 := Aside0.mk ((gp_ hg (IsS105.lt (show IsS105 w0 _ g s0_0 x1001_1 x1002_1 from hI_IsS105_HI0)) : gb860 ≠ g)); replace HI0 := Aside0.mk (IsS105.below hI_IsS105_HI0 hb); clear hb hbox hg; obtain ⟨Ao35, co35, eo35⟩ := Kd.R_slice HO855.out; subst eo35; have hnb36 := NB860_849.out; have hnc36 := NB849_860.out; have hnb37 := NB860_0.out; have hnc37 := NB0_860.out; obtain ⟨hcz38_0, hcz38_1, hfz38_0, hfz38_1⟩ := c2_ BK860; obtain ⟨Ao39, co39, eo39⟩ := Kd.R_slice HO858.out; subst eo39; have hnb40 := NB849_0.out; have hnc40 := NB0_849.out; obtain ⟨hcz41_0, hcz41_1, hfz41_0, hfz41_1⟩ := c2_ BK849))
        refine bodyPost_ret (results_cell_row rfl _ _ gb849 27 #[.slice Ao35 t853.length co35, .slice Ao39 t856.length co39] (0, 0) _ rfl (by (with_reducible repeat (first | refine blk_drewN ?_ _ | refine blk_drew ?_ | refine blk_alloc ?_ _)); refine blk_put (cs := #[.slice Ao35 t853.length co35, .slice none 0 0]) ?_ 1 _ rfl; (with_reducible repeat (first | refine blk_drewN ?_ _ | refine blk_drew ?_ | refine blk_alloc ?_ _)); refine blk_put (cs := #[.slice none 0 0, .slice none 0 0]) ?_ 0 _ rfl; (with_reducible repeat (first | refine blk_drewN ?_ _ | refine blk_drew ?_ | refine blk_alloc ?_ _)); refine blk_far ?_ NB849_860.out _; (with_reducible repeat (first | refine blk_drewN ?_ _ | refine blk_drew ?_ | refine blk_alloc ?_ _)); refine blk_far ?_ NB849_860.out _; (with_reducible repeat (first | refine blk_drewN ?_ _ | refine blk_drew ?_ | refine blk_alloc ?_ _)); exact BK849.out) Try.underlying27 rfl (by kernel_rfl)) rfl ?_
        exact ⟨_, _, qb_, (rw_ (Kd.R_mono (Kd.R_far (p := ⟨gb849, 1, none⟩) (Kd.R_far (p := ⟨gb849, 0, none⟩) (Kd.R_far (p := ⟨gb860, 1, none⟩) (Kd.R_far (p := ⟨gb860, 0, none⟩) (Kd.R_types (Kd.R_types HO855.out BK860.out (by decide)) BK849.out (by decide)) (fun _ hk => hk.1.2) (.slice Ao35 t853.length co35)) (fun _ hk => hk.1.2) (.slice Ao39 t856.length co39)) (fun _ hk => hk.2) (.slice Ao35 t853.length co35)) (fun _ hk => hk.2) (.slice Ao39 t856.length co39)) (fun _ hk => hk.1.1))), (rw_ (Kd.R_mono (Kd.R_far (p := ⟨gb849, 1, none⟩) (Kd.R_far (p := ⟨gb849, 0, none⟩) (Kd.R_far (p := ⟨gb860, 1, none⟩) (Kd.R_far (p := ⟨gb860, 0, none⟩) (Kd.R_types (Kd.R_types HO858.out BK860.out (by decide)) BK849.out (by decide)) (fun _ hk => hk.1.2) (.slice Ao35 t853.length co35)) (fun _ hk => hk.1.2) (.slice Ao39 t856.length co39)) (fun _ hk => hk.2) (.slice Ao35 t853.length co35)) (fun _ hk => hk.2) (.slice Ao39 t856.length co39)) (fun _ hk => hk.1.1))), hI_IsS105_HI0, hBI_, hK_⟩
end Go.Proofs.Ytbdnellgioimbaa.A
end
