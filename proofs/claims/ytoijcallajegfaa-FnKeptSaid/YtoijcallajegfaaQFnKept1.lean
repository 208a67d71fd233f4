/- Lemmas for the row FnKept: the program's functions told as plain functions, and plain mathematics. No conditions. -/
import Derived.ArgAppend
import Derived.Below
import Derived.BigQuiet
import Derived.Deep.AppendLies
import Derived.Deep.CutBlock
import Derived.Deep.DeepCutAuto
import Derived.Deep.Draws
import Derived.Deep.LoopGhost
import Derived.Deep.OwnRows
import Derived.Deep.QuietTactic
import Derived.Deep.RegionHeld3
import Derived.Ground.SlsfProg
import Derived.KernelRfl
import Derived.Laws.BitsLemmas
import Derived.Laws.BytesArg
import Derived.Laws.IdiomCopy
import Derived.Laws.MakeOwn
import Derived.Laws.OwnMore
import Derived.Laws.Rows
import Derived.Laws.Slices
import Derived.Laws.Tables
import Derived.Lib.AppendStr
import Derived.Lib.ConvBytes
import Derived.Maps.AppendAt
import Derived.OrdersHeld
import Derived.OwnWalk
import Derived.RowKit
import Derived.RowKit3
import Derived.Shelf.SlSortCmp.NoneTotal
import Derived.Tactics
import Derived.Test.YtoijcallajegfaaProg
import Derived.WalkKit
import Derived.WideLaws
import Derived.Test.YtoijcallajegfaaQFnKept0
section
namespace Go.Proofs.Ytoijcallajegfaa.A
open Go.RowKit Go.Proofs.YtoijcallajegfaaW.PrintWords Go.Proofs.YtoijcallajegfaaW.PrintLast Go.Proofs.YtoijcallajegfaaW.PrintMore
theorem cq0_ {w : World} {g : Nat} {t : TypeId} {a b : Value} (h : w.heap[g]? = some (.cells #[a, b] t (0, 0))) : w.cell? ⟨g, 0, none⟩ = some a := (blk_cell h 0).trans rfl
theorem cq1_ {w : World} {g : Nat} {t : TypeId} {a b : Value} (h : w.heap[g]? = some (.cells #[a, b] t (0, 0))) : w.cell? ⟨g, 1, none⟩ = some b := (blk_cell h 1).trans rfl
theorem bA_ : type_of% @below_alloc := @below_alloc
theorem bB_ : type_of% @pw_below_drewN := @pw_below_drewN
theorem bC_ : type_of% @below_drew1 := @below_drew1
theorem bD_ : type_of% @below_set := @below_set
theorem bE_ : type_of% @below_step := @below_step
theorem kA_ : type_of% @blk_drewN := @blk_drewN
theorem kB_ : type_of% @blk_drew := @blk_drew
theorem kC_ : type_of% @blk_alloc := @blk_alloc
theorem cA_ : type_of% @Kd.C_alloc := @Kd.C_alloc
theorem cB_ : type_of% @Kd.C_drewN := @Kd.C_drewN
theorem cC_ : type_of% @Kd.C_drew := @Kd.C_drew
theorem rA_ : type_of% @Kd.R_alloc := @Kd.R_alloc
theorem rB_ : type_of% @Kd.R_drewN := @Kd.R_drewN
theorem rC_ : type_of% @Kd.R_drew := @Kd.R_drew
theorem cD_ : type_of% @Kd.C_below := @Kd.C_below
theorem rD_ : type_of% @Kd.R_below := @Kd.R_below
theorem kD_ : type_of% @blk_frozen := @blk_frozen
theorem A_ : type_of% @Aside0.mk := @Aside0.mk
theorem mA_ : type_of% @List.map_toArray := @List.map_toArray
theorem mB_ : type_of% @List.map_cons := @List.map_cons
theorem mC_ : type_of% @List.map_nil := @List.map_nil
theorem sA_ : type_of% @List.setIfInBounds_toArray := @List.setIfInBounds_toArray
theorem sB_ : type_of% @List.set_cons_zero := @List.set_cons_zero
theorem sC_ : type_of% @List.set_cons_succ := @List.set_cons_succ
theorem lA_ : type_of% @List.length_drop := @List.length_drop
theorem lB_ : type_of% @List.length_take := @List.length_take
theorem gA_ : type_of% @gate_callee := @gate_callee
theorem gB_ : type_of% @gate_dst := @gate_dst
theorem oB_ : type_of% @of_decide_eq_true := @of_decide_eq_true
theorem oC_ : type_of% @decide_eq_true := @decide_eq_true
theorem oD_ : type_of% @decide_eq_false := @decide_eq_false
theorem rE_ : type_of% @Kd.R_lower := @Kd.R_lower
theorem bF_ : type_of% @below_size := @below_size
theorem kE_ : type_of% @blk_below := @blk_below
theorem nA_ : type_of% @Nat.le_refl := @Nat.le_refl
end Go.Proofs.Ytoijcallajegfaa.A
end
section
namespace Go.Proofs.Ytoijcallajegfaa.A
open Go.RowKit Go.Proofs.YtoijcallajegfaaW.PrintWords Go.Proofs.YtoijcallajegfaaW.PrintLast Go.Proofs.YtoijcallajegfaaW.PrintMore
attribute [local go_sem] max2_int min2_int max_two min_two max_three min_three max_four min_four
set_option linter.unusedVariables false
set_option linter.unusedSimpArgs false
def errW : Option Int → Value
 | none => .nilIface
 | some c => .iface 0 (.int .i64 c)
theorem errW_none : errW none = .nilIface := rfl
theorem errW_some (c : Int) : errW (some c) = .iface 0 (.int .i64 c) := rfl
theorem info3 : (Try.prog.info? 3).map (fun i => (i.zero, i.size, i.bytes)) = some (some (.int .i64 0), 1, 8) := by kernel_rfl
theorem info4 : (Try.prog.info? 4).map (fun i => (i.zero, i.size, i.bytes)) = some (some (.bool false), 1, 1) := by kernel_rfl
theorem info23 : (Try.prog.info? 23).map (fun i => (i.zero, i.size, i.bytes)) = some (some (.slice none 0 0), 1, 24) := by kernel_rfl
theorem info33 : (Try.prog.info? 33).map (fun i => (i.zero, i.size, i.bytes)) = some (some (.agg #[(.slice none 0 0), (.slice none 0 0)]), 2, 48) := by kernel_rfl
structure S102 where
 f0 : (List Int)
 f1 : Int
 f2 : Int
def rd_L5 (xs : List (List Int)) (i : Int) : (List Int) := xs.getD i.toNat ([] : List Int)
theorem at_L5 {w : World} {A : Option Addr} {n : Nat} {xs : List (List Int)} (h : Kd.C (Kd.slice 3 (Kd.int .i64)) w A n xs) (i : Int) (h0 : 0 ≤ i) (h1 : i < n) : ∃ ad A0 c0, A = some ad ∧ w.cell? (ad.add i.toNat) = some (.slice A0 (rd_L5 xs i).length c0) ∧ (rd_L5 xs i).length ≤ c0 ∧ (Kd.int .i64).C w A0 (rd_L5 xs i).length (rd_L5 xs i) := by
 obtain ⟨ad, c, e, _, hK, hc0⟩ := Kd.C_get h ([] : List Int) i h0 h1
 have hc : ∀ j u, c[j]? = some u → w.cell? (ad.add (i.toNat * 1 + j)) = some u := hc0
 obtain ⟨A0, c0, rfl, l0, g0⟩ := hK
 exact ⟨ad, A0, c0, e, by have hq := hc 0 _ rfl; rwa [Nat.mul_one, Nat.add_zero] at hq, l0, g0⟩
structure S33 where
 f0 : (List Int)
 f1 : (List Int)
def z33 : S33 := ⟨([] : List Int), ([] : List Int)⟩
def k33 : Kd S33 := Kd.iso (Kd.pair (Kd.slice 3 (Kd.int .i64)) (Kd.slice 3 (Kd.int .i64))) (fun x : S33 => (x.f0, x.f1))
theorem k33_open {w : World} {x : S33} {cs : List Value} (h : k33.K w x cs) : ∃ A0 c0 A1 c1, cs = [.slice A0 x.f0.length c0, .slice A1 x.f1.length c1] ∧ x.f0.length ≤ c0 ∧ (Kd.int .i64).C w A0 x.f0.length x.f0 ∧ x.f1.length ≤ c1 ∧ (Kd.int .i64).C w A1 x.f1.length x.f1 := by
 obtain ⟨_, _, rfl, ⟨A0, c0, rfl, l0, g0⟩, ⟨A1, c1, rfl, l1, g1⟩⟩ := h
 exact ⟨A0, c0, A1, c1, rfl, l0, g0, l1, g1⟩
theorem k33_openM {w : World} {base : Nat} {ok : Nat → Prop} {x : S33} {cs : List Value} (h : k33.M w base ok x cs) : ∃ v0 v1, cs = [v0, v1] ∧ (Kd.int .i64).R 3 w base ok v0 x.f0 ∧ (Kd.int .i64).R 3 w base ok v1 x.f1 := by
 obtain ⟨_, _, rfl, ⟨v0, rfl, g0⟩, ⟨v1, rfl, g1⟩⟩ := h
 exact ⟨v0, v1, rfl, g0, g1⟩
theorem k33_mkM (w : World) (base : Nat) (ok : Nat → Prop) (x : S33) {v0 : Value} (g0 : (Kd.int .i64).R 3 w base ok v0 x.f0) {v1 : Value} (g1 : (Kd.int .i64).R 3 w base ok v1 x.f1) : k33.M w base ok x [v0, v1] := ⟨[v0], [v1], rfl, ⟨v0, rfl, g0⟩, ⟨v1, rfl, g1⟩⟩
theorem k33_openF {W : World} {ok : Nat → Prop} {x : S33} {cs : List Value} (h : Kd.FK k33 W ok x cs) : ∃ A0 c0 A1 c1, cs = [.slice A0 x.f0.length c0, .slice A1 x.f1.length c1] ∧ x.f0.length ≤ c0 ∧ Kd.F (Kd.int .i64) W ok A0 x.f0.length x.f0 ∧ x.f1.length ≤ c1 ∧ Kd.F (Kd.int .i64) W ok A1 x.f1.length x.f1 := by
 obtain ⟨A0, c0, A1, c1, rfl, l0, _, l1, _⟩ := k33_open (Kd.FK_now h)
 exact ⟨A0, c0, A1, c1, rfl, l0, (fun W' hW => by obtain ⟨A0_, c0_, A1_, c1_, he, l0_, g0_, l1_, g1_⟩ := k33_open (h W' hW); injection (Option.some.inj (show some (Value.slice A0 x.f0.length c0) = some (Value.slice A0_ x.f0.length c0_) from congrArg (fun l => l[0]?) he)) with ha_ _ _; rw [ha_]; exact g0_), l1, (fun W' hW => by obtain ⟨A0_, c0_, A1_, c1_, he, l0_, g0_, l1_, g1_⟩ := k33_open (h W' hW); injection (Option.some.inj (show some (Value.slice A1 x.f1.length c1) = some (Value.slice A1_ x.f1.length c1_) from congrArg (fun l => l[1]?) he)) with ha_ _ _; rw [ha_]; exact g1_)⟩
def rd_T33 (xs : List S33) (i : Int) : S33 := xs.getD i.toNat z33
theorem at_T33 {w : World} {A : Option Addr} {n : Nat} {xs : List S33} (h : Kd.C k33 w A n xs) (i : Int) (h0 : 0 ≤ i) (h1 : i < n) : ∃ ad A0 c0 A1 c1, A = some ad ∧ w.cell? (ad.add (i.toNat * 2)) = some (.slice A0 (rd_T33 xs i).f0.length c0) ∧ w.cell? ⟨(ad.add (i.toNat * 2)).block, (ad.add (i.toNat * 2)).off + 1, none⟩ = some (.slice A1 (rd_T33 xs i).f1.length c1) ∧ (rd_T33 xs i).f0.length ≤ c0 ∧ (Kd.int .i64).C w A0 (rd_T33 xs i).f0.length (rd_T33 xs i).f0 ∧ (rd_T33 xs i).f1.length ≤ c1 ∧ (Kd.int .i64).C w A1 (rd_T33 xs i).f1.length (rd_T33 xs i).f1 := by
 obtain ⟨ad, c, e, _, hK, hc0⟩ := Kd.C_get h z33 i h0 h1
 have hc : ∀ j u, c[j]? = some u → w.cell? (ad.add (i.toNat * 2 + j)) = some u := hc0
 obtain ⟨A0, c0, A1, c1, rfl, l0, g0, l1, g1⟩ := k33_open hK
 exact ⟨ad, A0, c0, A1, c1, e, hc 0 _ rfl, by rw [← add_field _ _ 1 (by omega)]; exact hc 1 _ rfl, l0, g0, l1, g1⟩
structure S118 where
 f0 : Int
 f1 : Int
def z118 : S118 := ⟨(0 : Int), (0 : Int)⟩
def k118 : Kd S118 := Kd.iso (Kd.pair (Kd.int .i64) (Kd.int .i64)) (fun x : S118 => (x.f0, x.f1))
theorem k118_open {w : World} {x : S118} {cs : List Value} (h : k118.K w x cs) : cs = [.int .i64 x.f0, .int .i64 x.f1] := by
 obtain ⟨_, _, rfl, rfl, rfl⟩ := h
 exact rfl
theorem k118_mkM (w : World) (base : Nat) (ok : Nat → Prop) (x : S118)  : k118.M w base ok x [.int .i64 x.f0, .int .i64 x.f1] := ⟨[.int .i64 x.f0], [.int .i64 x.f1], rfl, rfl, rfl⟩
def rd_T118 (xs : List S118) (i : Int) : S118 := xs.getD i.toNat z118
theorem at_T118 {w : World} {A : Option Addr} {n : Nat} {xs : List S118} (h : Kd.C k118 w A n xs) (i : Int) (h0 : 0 ≤ i) (h1 : i < n) : ∃ ad , A = some ad ∧ w.cell? (ad.add (i.toNat * 2)) = some (.int .i64 (rd_T118 xs i).f0) ∧ w.cell? ⟨(ad.add (i.toNat * 2)).block, (ad.add (i.toNat * 2)).off + 1, none⟩ = some (.int .i64 (rd_T118 xs i).f1) := by
 obtain ⟨ad, c, e, _, hK, hc0⟩ := Kd.C_get h z118 i h0 h1
 have hc : ∀ j u, c[j]? = some u → w.cell? (ad.add (i.toNat * 2 + j)) = some u := hc0
 obtain rfl := k118_open hK
 exact ⟨ad, e, hc 0 _ rfl, by rw [← add_field _ _ 1 (by omega)]; exact hc 1 _ rfl⟩
end Go.Proofs.Ytoijcallajegfaa.A
end
section
/- Short words for printed texts. No conditions. -/
namespace Go.Proofs.Ytoijcallajegfaa.A
open Go.RowKit Go.Proofs.YtoijcallajegfaaW.PrintWords Go.Proofs.YtoijcallajegfaaW.PrintLast Go.Proofs.YtoijcallajegfaaW.PrintMore
set_option linter.unusedVariables false
theorem qa_ {p : Prop} (h : p := by (try simp only [List.map_toArray, List.map_cons, List.map_nil]); first | done | rfl | (simp only [List.length_drop, List.length_take]; rfl)) : p := h
theorem qb_ {p : Prop} (h : p := by first | rfl | (simp [errW_none, errW_some] <;> rfl) | (simp [*, errW_none, errW_some] <;> rfl)) : p := h
theorem qc_ {p : Prop} (h : p := by first | rfl | (simp; done) | (simp [*]; done)) : p := h
theorem qd_ {p : Prop} (h : p := by first | omega | exact Nat.le_refl _) : p := h
theorem qe_ {p : Prop} (h : p := by first | (with_reducible assumption) | assumption) : p := h
theorem hB_ {p : Prop} (h : p := by repeat (first | (with_reducible first | exact HB.out | apply below_alloc | apply pw_below_drewN | apply below_drew1 | refine below_set ?_ (Aside0.out (by assumption))) | exact HB.out)) : p := h
theorem hBI_ {p : Prop} (h : p := by repeat (first | (with_reducible first | exact HB.out | apply below_alloc | apply pw_below_drewN | apply below_drew1 | refine below_set ?_ (IsS102.ge HI0.out) | refine below_set ?_ (IsS102.ge HI577.out) | refine below_set ?_ (Aside0.out (by assumption))) | exact HB.out)) : p := h
theorem hK_ {p : Prop} (h : p := by repeat (first | (with_reducible first | exact HK.out | apply KeepBut.set_ | apply keep_drewN | apply keep_drew | apply keep_alloc | refine keep_far ?_ (show w.heap.size ≤ _ from Aside0.out (by assumption)) _) | exact HK.out)) : p := h
theorem hI_IsS102_HI0 {p : Prop} (h : p := by repeat (first | (with_reducible first | exact HI0.out | apply IsS102.alloc | apply IsS102.drewN | apply IsS102.drew | apply IsS102.set_1 | apply IsS102.set_2 | refine IsS102.far ?_ (Aside0.out (by assumption)) _) | exact HI0.out)) : p := h
theorem hI_IsS102_HI577 {p : Prop} (h : p := by repeat (first | (with_reducible first | exact HI577.out | apply IsS102.alloc | apply IsS102.drewN | apply IsS102.drew | apply IsS102.set_1 | apply IsS102.set_2 | refine IsS102.far ?_ (Aside0.out (by assumption)) _) | exact HI577.out)) : p := h
theorem kk_ {w W : World} {g : Nat} {o : Obj} (a : Aside0 (w.heap[g]? = some o)) (hw : Below w.heap.size w W := by repeat (first | (with_reducible first | exact Below.refl _ _ | apply below_alloc | apply pw_below_drewN | apply below_drew1) | exact Below.refl _ _)) : W.heap[g]? = some o := blk_below a.out hw
theorem bb_ {w W w1 : World} {g : Nat} {o : Obj} (a : Aside0 (w.heap[g]? = some o)) (hb : Below W.heap.size W w1) (hw : Below w.heap.size w W := by repeat (first | (with_reducible first | exact Below.refl _ _ | apply below_alloc | apply pw_below_drewN | apply below_drew1) | exact Below.refl _ _)) : Aside0 (w1.heap[g]? = some o) := ⟨blk_below (blk_below a.out hw) hb⟩
section
variable {α : Type} {d : Kd α} {e n c : Nat} {b : Nat} {ok : Nat → Prop} {v : Value} {xs : List α} {A : Option Addr} {w W w1 : World}
theorem rr_ (a : Aside0 (d.R e w b ok v xs)) (hw : Below w.heap.size w W := by repeat (first | (with_reducible first | exact Below.refl _ _ | apply below_alloc | apply pw_below_drewN | apply below_drew1) | exact Below.refl _ _)) : d.R e W b ok v xs := Kd.R_below a.out hw
theorem rw_ (a : d.R e w b ok v xs) (hw : Below w.heap.size w W := by repeat (first | (with_reducible first | exact Below.refl _ _ | apply below_alloc | apply pw_below_drewN | apply below_drew1) | exact Below.refl _ _)) : d.R e W b ok v xs := Kd.R_below a hw
theorem rb_ (a : Aside0 (d.R e w b ok v xs)) (hb : Below W.heap.size W w1) (hw : Below w.heap.size w W := by repeat (first | (with_reducible first | exact Below.refl _ _ | apply below_alloc | apply pw_below_drewN | apply below_drew1) | exact Below.refl _ _)) : Aside0 (d.R e w1 b ok v xs) := ⟨Kd.R_below (Kd.R_below a.out hw) hb⟩
theorem ss_ (a : Aside0 (Kd.S d e w b ok v xs)) (hw : Below w.heap.size w W := by repeat (first | (with_reducible first | exact Below.refl _ _ | apply below_alloc | apply pw_below_drewN | apply below_drew1) | exact Below.refl _ _)) : Kd.S d e W b ok v xs := Kd.S_below a.out hw
theorem sw_ (a : Kd.S d e w b ok v xs) (hw : Below w.heap.size w W := by repeat (first | (with_reducible first | exact Below.refl _ _ | apply below_alloc | apply pw_below_drewN | apply below_drew1) | exact Below.refl _ _)) : Kd.S d e W b ok v xs := Kd.S_below a hw
theorem sb_ (a : Aside0 (Kd.S d e w b ok v xs)) (hb : Below W.heap.size W w1) (hw : Below w.heap.size w W := by repeat (first | (with_reducible first | exact Below.refl _ _ | apply below_alloc | apply pw_below_drewN | apply below_drew1) | exact Below.refl _ _)) : Aside0 (Kd.S d e w1 b ok v xs) := ⟨Kd.S_below (Kd.S_below a.out hw) hb⟩
theorem cb_ (a : Aside0 (d.C w A n xs)) (hw : Below w.heap.size w W := by repeat (first | (with_reducible first | exact HB.out | apply below_alloc | apply pw_below_drewN | apply below_drew1 | refine below_set ?_ (Aside0.out (by assumption))) | exact HB.out)) : d.C W A n xs := Kd.C_below a.out hw
theorem cc_ (a : Aside0 (d.C w A n xs)) (hw : Below w.heap.size w W := by repeat (first | (with_reducible first | exact Below.refl _ _ | apply below_alloc | apply pw_below_drewN | apply below_drew1) | exact Below.refl _ _)) : d.C W A n xs := Kd.C_below a.out hw
theorem cw_ (a : d.C w A n xs) (hw : Below w.heap.size w W := by repeat (first | (with_reducible first | exact Below.refl _ _ | apply below_alloc | apply pw_below_drewN | apply below_drew1) | exact Below.refl _ _)) : d.C W A n xs := Kd.C_below a hw
theorem cr_ (a : Aside0 (d.R e w b ok (.slice A n c) xs)) (hw : Below w.heap.size w W := by repeat (first | (with_reducible first | exact Below.refl _ _ | apply below_alloc | apply pw_below_drewN | apply below_drew1) | exact Below.refl _ _)) : d.C W A xs.length xs := Kd.C_below (Kd.R_reads' a.out).2.2 hw
end
theorem b1_ {w W w1 : World} (hb : Below W.heap.size W w1) (h : Below w.heap.size w W := by repeat (first | (with_reducible first | exact HB.out | apply below_alloc | apply pw_below_drewN | apply below_drew1 | refine below_set ?_ (Aside0.out (by assumption))) | exact HB.out)) : Aside0 (Below w.heap.size w w1) := ⟨below_step h hb⟩
theorem b2_ {w W w1 : World} (hb : Below W.heap.size W w1) (h : Below w.heap.size w W := by repeat (first | (with_reducible first | exact HB.out | apply below_alloc | apply pw_below_drewN | apply below_drew1 | refine below_set ?_ (IsS102.ge HI0.out) | refine below_set ?_ (IsS102.ge HI577.out) | refine below_set ?_ (Aside0.out (by assumption))) | exact HB.out)) : Aside0 (Below w.heap.size w w1) := ⟨below_step h hb⟩
theorem gx_ {n m k : Nat} (hg : k = m) (h : n ≤ m) : n ≤ k := hg ▸ h
theorem gn_ {n m k : Nat} (hg : k = m) (h : n < m) : n ≠ k := hg ▸ Nat.ne_of_lt h
theorem gp_ {n m k : Nat} (hg : k = m) (h : n < m) : k ≠ n := hg ▸ Nat.ne_of_gt h
theorem cz0_ {w : World} {g : Nat} {t : TypeId} {l : List Value} {v0 : Value} (h : Aside0 (w.heap[g]? = some (.cells (List.toArray (v0 :: l)) t (0, 0)))) : w.cell? ⟨g, 0, none⟩ = some v0 := (blk_cell h.out 0).trans rfl
theorem cz1_ {w : World} {g : Nat} {t : TypeId} {l : List Value} {v0 v1 : Value} (h : Aside0 (w.heap[g]? = some (.cells (List.toArray (v0 :: v1 :: l)) t (0, 0)))) : w.cell? ⟨g, 1, none⟩ = some v1 := (blk_cell h.out 1).trans rfl
theorem c2_ {w : World} {g : Nat} {t : TypeId} {v0 v1 : Value} (h : Aside0 (w.heap[g]? = some (.cells (List.toArray [v0, v1]) t (0, 0)))) : w.cell? ⟨g, 0, none⟩ = some v0 ∧ w.cell? ⟨g, 1, none⟩ = some v1 ∧ w.frozen? ⟨g, 0, none⟩ = false ∧ w.frozen? ⟨g, 1, none⟩ = false := ⟨cz0_ h, cz1_ h, blk_frozen h.out 0, blk_frozen h.out 1⟩
theorem gw_ (w : World) {W : World} {g : Nat} (hg : g = W.heap.size) (h : Below w.heap.size w W := by repeat (first | (with_reducible first | exact HB.out | apply below_alloc | apply pw_below_drewN | apply below_drew1 | refine below_set ?_ (Aside0.out (by assumption))) | exact HB.out)) : Aside0 (w.heap.size ≤ g) := ⟨gx_ hg (below_size h)⟩
theorem gN_ {w W : World} {g k : Nat} {o : Obj} (a : Aside0 (w.heap[g]? = some o)) (hg : k = W.heap.size) (hw : Below w.heap.size w W := by repeat (first | (with_reducible first | exact Below.refl _ _ | apply below_alloc | apply pw_below_drewN | apply below_drew1) | exact Below.refl _ _)) : Aside0 (g ≠ k) := ⟨gn_ hg (blk_lt (blk_below a.out hw))⟩
theorem gP_ {w W : World} {g k : Nat} {o : Obj} (a : Aside0 (w.heap[g]? = some o)) (hg : k = W.heap.size) (hw : Below w.heap.size w W := by repeat (first | (with_reducible first | exact Below.refl _ _ | apply below_alloc | apply pw_below_drewN | apply below_drew1) | exact Below.refl _ _)) : Aside0 (k ≠ g) := ⟨gp_ hg (blk_lt (blk_below a.out hw))⟩
theorem rl_ {α : Type} {d : Kd α} {e : Nat} {ok : Nat → Prop} {v : Value} {xs : List α} (w : World) {W w1 : World} (a : d.R e w1 W.heap.size ok v xs) (h : Below w.heap.size w W := by repeat (first | (with_reducible first | exact HB.out | apply below_alloc | apply pw_below_drewN | apply below_drew1 | refine below_set ?_ (Aside0.out (by assumption))) | exact HB.out)) : Aside0 (d.R e w1 w.heap.size ok v xs) := ⟨Kd.R_lower a (below_size h)⟩
theorem cp_ {α : Type} {c : Prop} [Decidable c] {a : Option α} {r : α} (H : (if c then a else none) = some r) : c := Classical.byContradiction fun h => by rw [if_neg h] at H; cases H
theorem ca_ {α : Type} {c : Prop} [Decidable c] {a : Option α} {r : α} (H : (if c then a else none) = some r) : a = some r := by rw [if_pos (cp_ H)] at H; exact H
theorem bi_ {α β : Type} {x : Option α} {f : α → Option β} {r : β} (H : x.bind f = some r) : ∃ a, Aside0 (x = some a) ∧ f a = some r := by obtain ⟨a, h, k⟩ := Option.bind_eq_some_iff.mp H; exact ⟨a, ⟨h⟩, k⟩
theorem qp_ {p : Prop} (h : p := by (with_reducible repeat (first | refine blk_drewN ?_ _ | refine blk_drew ?_ | refine blk_alloc ?_ _)); apply blk_put; (with_reducible repeat (first | refine blk_drewN ?_ _ | refine blk_drew ?_ | refine blk_alloc ?_ _)); apply blk_put; (with_reducible repeat (first | refine blk_drewN ?_ _ | refine blk_drew ?_ | refine blk_alloc ?_ _)); exact Aside0.out (by assumption); all_goals rfl) : p := h
theorem fa_ {α : Type} {d : Kd α} {e b g t : Nat} {ok : Nat → Prop} {v u0 u1 : Value} {xs : List α} {w : World} {cs : Array Value} (a : Aside0 (d.R e w b ok v xs)) (h : Aside0 (w.heap[g]? = some (.cells cs t (0, 0)))) (ht : ∀ q, q ∈ e :: d.E → q ≠ t := by decide) : d.R e ((w.setCell ⟨g, 0, none⟩ u0).setCell ⟨g, 1, none⟩ u1) b ok v xs := Kd.R_mono (Kd.R_far (p := ⟨g, 1, none⟩) (Kd.R_far (p := ⟨g, 0, none⟩) (Kd.R_types a.out h.out ht) (fun _ hk => hk.2) u0) (fun _ hk => hk.2) u1) (fun _ hk => hk.1)
def bl_ (n m : Nat) : Array Bool := ((List.range n).map fun i => m.testBit i).toArray
theorem lo_ {α : Type} {a b : Option α} (h : LeO a b := by first | exact LeO.refl _ | exact LeO.none _) : LeO a b := h
section
variable {P : Program} {ops : Array Oper} {rest : List Oper} {o : Oper} {a : Act} {Q : Exit → Act → World → Prop} {S : World → Prop} {ds : List Nat} {md : Region.Mode} {T : Bool × List (List Nat × List Nat)} {B : List Nat}
theorem bx_ {W : World} (N : Tmp) (cs : Array Value) (t : TypeId) (h : ∀ g, g = W.heap.size → ∀ w1, w1.heap[g]? = some (.cells cs t (0, 0)) → Below W.heap.size W w1 → wpList P ops Q rest (a.put o.dst (.pointer (some ⟨g, 0, none⟩))) w1) (hgd : o.guard = none := by rfl) (hd : o.dst = some N := by rfl) (hrun : (execOp a.eval o).run P W = .ok (.value (.pointer (some ⟨W.heap.size, 0, none⟩))) (W.alloc (.cells cs t (0, 0))) := by first | (go_simp; done) | (go_simp; rfl)) : wpList P ops Q (o :: rest) a W := box_event hgd hd hrun h
theorem gL_ {w : World} (N : Option Tmp) {f : FuncId} {fn : Func} {az : Array Operand} {ts : Array TypeId} (hf : P.funcs[f]? = some fn) (args : Array Value) (hop : o.op = .call { callee := .value (.func f), args := az, argTypes := ts }) (hargs : az.map a.eval = args) (h : Calls P f args w fun e w' => ∃ v, e = .returned v ∧ wpList P ops Q rest (a.put N v) w') (hd : o.dst = N := by rfl) (hg : o.guard = none := by rfl) (hname : (fn.name == "runtime.NumGoroutine") = false := by kernel_rfl) (hb : fn.body.isSome = true := by rfl) : wpList P ops Q (o :: rest) a w := goesL_ N hd hg hf hname hb args hop hargs h
theorem gO_ {N : Option Tmp} {w : World} {K : Act → World → Prop} {f : FuncId} {fn : Func} {az : Array Operand} {ts : Array TypeId} (hf : P.funcs[f]? = some fn) (args : Array Value) (hw : Region.wanted o (yielded ops a.tmps) = true) (hN : o.dst = N) (hop : o.op = .call { callee := .value (.func f), args := az, argTypes := ts }) (hargs : az.map a.eval = args) (h : Calls P f args w fun e w' => ∃ v, e = .returned v ∧ K (a.put N v) w') (hname : (fn.name == "runtime.NumGoroutine") = false := by kernel_rfl) (hb : fn.body.isSome = true := by rfl) : if Region.wanted o (yielded ops a.tmps) = true then Oper.wp P o a w K Q else K (a.put N undef) w := goes_ hf hname hb args hw hN hop hargs h
theorem goesF_ {N : Option Tmp} {w : World} {K : Act → World → Prop} {f : FuncId} {fn : Func} {c : Operand} {az : Array Operand} {ts : Array TypeId} (hf : P.funcs[f]? = some fn) (hname : (fn.name == "runtime.NumGoroutine") = false) (hb : fn.body.isSome = true) (args : Array Value) (hw : Region.wanted o (yielded ops a.tmps) = true) (hN : o.dst = N) (hop : o.op = .call { callee := .value c, args := az, argTypes := ts }) (hargs : az.map a.eval = args) (h : Calls P f args w fun e w' => ∃ v, e = .returned v ∧ K (a.put N v) w') (hc : a.eval c = .func (.func f) #[] #[] := by rfl) : if Region.wanted o (yielded ops a.tmps) = true then Oper.wp P o a w K Q else K (a.put N undef) w := by
 refine call_ f args hw hN ?_ h
 have he := enters_ hf hname hb args w
 unfold execOp
 simp [hop, resolve, Deferred.ofValue, invoke, hargs, he, hc]
theorem pu_ (i : Nat) (N : Option Tmp) {v : Value} {fuel : Nat} {l : Array Bool} {w : World} (l' : Array Bool) (hT : Aside0 (rtab md ops = T)) {a' : Act} (h : wpAnyLast P md ops Q S ds fuel l' a' w) (hi : ops[i]? = some o := by rfl) (hN : o.dst = N := by rfl) (hc : anyT T l.toList l'.toList i = true := by kernel_rfl) (hQ : ∀ c a w, Q (.panic c) (a.put o.dst v) w → Q (.panic c) a w := by exact fun _ _ _ h => h) (hg : o.guard = none ∨ True := by exact .inr trivial) (hy : Yields P ops o v a := by exact Or.inl ⟨by rfl, by intro w'; go_simp; with_reducible rfl⟩) (ha : a.put N v = a' := by simp only [Act.put, List.setIfInBounds_toArray, List.set_cons_zero, List.set_cons_succ, i64_w, i32_w]; rfl) : wpAnyLast P md ops Q S ds (fuel + 1) l a w := pure_ l' hi hN (any_of hT.out hc) hQ hy ha h
theorem ta_ (i : Nat) (N : Option Tmp) {v : Value} {fuel : Nat} {l : Array Bool} {w : World} (l' : Array Bool) (hT : Aside0 (rtab md ops = T)) (hB : Aside0 (waitsOk T.2 B = true)) (hS : S w) {a' : Act} (h : wpAnyLast P md ops Q S ds fuel l' a' w) (hi : ops[i]? = some o := by rfl) (hN : o.dst = N := by rfl) (hc : takeW T B ds l.toList l'.toList i = true := by kernel_rfl) (hQ : ∀ c a w, Q (.panic c) (a.put o.dst v) w → Q (.panic c) a w := by exact fun _ _ _ h => h) (hy : YieldsIf P ops S o v a := by exact Or.inl ⟨by rfl, by intro w' hs_; (repeat obtain ⟨s_, hs_⟩ := hs_); go_simp; with_reducible rfl⟩) (ha : a.put N v = a' := by simp only [Act.put, List.setIfInBounds_toArray, List.set_cons_zero, List.set_cons_succ, i64_w, i32_w]; rfl) : wpAnyLast P md ops Q S ds (fuel + 1) l a w := take_ l' hi hN (take_ofW hT.out hB.out hc) hQ hy hS ha h
theorem on_ (i : Nat) (N : Option Tmp) {fuel : Nat} {l : Array Bool} {w : World} (l' : Array Bool) (hT : Aside0 (rtab md ops = T)) (h : ∀ K : Act → World → Prop, Shut (∀ a' w', S w' → (S w' → wpAnyLast P md ops Q S ds fuel l' a' w') → K a' w') → if Region.wanted o (yielded ops a.tmps) = true then Oper.wp P o a w K Q else K (a.put N undef) w) (hi : ops[i]? = some o := by rfl) (hN : o.dst = N := by rfl) (hc : (readyT T.2 l.toList == [i] && l.toList.set i true == l'.toList) = true := by kernel_rfl) (hd : i ∉ ds := by decide) : wpAnyLast P md ops Q S ds (fuel + 1) l a w := one_ l' hi hN (one_of hT.out hc) hd h
theorem no_ {v : Value} {fuel : Nat} {l : Array Bool} {w : World} (N : Option Tmp) {a' : Act} (h : wpAnyLast P md ops Q S ds fuel l a' w) (ha : a.put N v = a' := by simp only [Act.put, List.setIfInBounds_toArray, List.set_cons_zero, List.set_cons_succ, i64_w, i32_w]; rfl) : wpAnyLast P md ops Q S ds fuel l (a.put N v) w := norm_ ha h
end
end Go.Proofs.Ytoijcallajegfaa.A
end
section
namespace Go.Proofs.Ytoijcallajegfaa.A
open Go.RowKit Go.Proofs.YtoijcallajegfaaW.PrintWords Go.Proofs.YtoijcallajegfaaW.PrintLast Go.Proofs.YtoijcallajegfaaW.PrintMore
attribute [local go_sem] max2_int min2_int max_two min_two max_three min_three max_four min_four
set_option linter.unusedVariables false
set_option linter.unusedSimpArgs false
def Z56.l0 : Nat → List Int → List Bool → Int → Option Bool
 | 0, _, _, _ => none
 | k + 1, l, s, i => if i < (l.length : Int) then (if 0 ≤ i then (if rd l i < 0 then some false else (if rd l i ≥ (l.length : Int) then some false else (if rdOf false s (rd l i) = true then some false else Z56.l0 k l (s.set (rd l i).toNat true) (wrap64 (i + 1))))) else none) else some true
def Z56.f (k : Nat) (l0 : List Int) : Option Bool := if (l0.length : Int) > 24 then some false else Z56.l0 k l0 (List.replicate 24 false) 0
theorem Z56.mono_l : ∀ k, (∀ y0 y1 y2, LeO (Z56.l0 k y0 y1 y2) (Z56.l0 (k + 1) y0 y1 y2))
 | 0 => fun _ _ _ r h => by simp [Z56.l0] at h
 | k + 1 => by
  have ih0 := Z56.mono_l k
  ·intro y0 y1 y2
   unfold Z56.l0
   repeat' first|exact ih0 _ _ _|exact lo_|refine LeO.ite ?_ ?_|refine LeO.bind ?_ (fun _ => ?_)
theorem Z56.mono : ∀ a0 k, LeO (Z56.f k a0) (Z56.f (k + 1) a0) := by
 intro a0 k
 unfold Z56.f
 exact LeO.ite (LeO.refl _) (Z56.mono_l k _ _ _)
def Z24 : Array Value := #[Value.bool false, Value.bool false, Value.bool false, Value.bool false, Value.bool false, Value.bool false, Value.bool false, Value.bool false, Value.bool false, Value.bool false, Value.bool false, Value.bool false, Value.bool false, Value.bool false, Value.bool false, Value.bool false, Value.bool false, Value.bool false, Value.bool false, Value.bool false, Value.bool false, Value.bool false, Value.bool false, Value.bool false]
theorem row_same (w : World) (g : Nat) (t : TypeId) (cur : Array Value) (hg : w.heap[g]? = some (.cells cur t (0, 0))) : w.setRow g cur = w := by
 have hv : ∀ h, w.heap[g]'h = .cells cur t (0, 0) := fun h => (Array.getElem?_eq_some_iff.1 hg).2
 unfold World.setRow
 cases w with
 | mk heap tape drawn os output =>
  congr 1
  apply Array.ext
  ·simp
  ·intro k h1 h2
   simp only [Array.getElem_modify]
   split
   ·rename_i hk; subst hk; simp at hv; simp [hv h2]
   ·rfl
theorem wpList_val {P : Program} {ops : Array Oper} {rest : List Oper} {o : Oper} {a : Act} {Q : Exit → Act → World → Prop} {w : World} (hg : o.guard = none) (v : Value) (w1 : World) (hrun : (execOp a.eval o).run P w = .ok (.value v) w1) (h : wpList P ops Q rest (a.put o.dst v) w1) : wpList P ops Q (o :: rest) a w :=
 wpList_plain hg fun K hK => by unfold Oper.wp; rw [hrun]; exact hK _ _ h
theorem perm_start (w : World) : Kd.R Kd.bool 137 (w.alloc (.cells Z24 137)) w.heap.size (fun _ => True) (.slice (some ⟨w.heap.size, 0, none⟩) 24 24) (List.replicate 24 false) := by
 have h := World.ownsRow_lit (base := w.heap.size) (e := 137) (size := 1) w Z24 24 (nA_ _) (by unfold maxLen; omega) rfl
 exact Kd.R_of_own (xs := List.replicate 24 false) h (fun _ _ => trivial)
set_option maxHeartbeats 8000000 in
set_option maxRecDepth 100000 in
theorem Z56.calls (k : Nat) (A0 : Option Addr) (c0 : Nat) (l0 : List Int) (r : Bool) (w : World) (hr0 : Kd.C (Kd.int .i64) w A0 l0.length l0) (hc0 : l0.length ≤ c0) (h : Z56.f k l0 = some r) :
  Calls Try.prog 109 #[.slice A0 l0.length c0] w fun e w' => e = .returned (.bool r) ∧ Below w.heap.size w w' := by
 have HR0 := A_ hr0
 have HC0 := A_ hc0
 clear hr0 hc0
 have hst := perm_start w
 have HST := A_ hst
 clear hst
 have hb0 : Below w.heap.size w (w.alloc (.cells Z24 137)) := (Below.refl _ _).alloc (nA_ _) _
 have HB0 := A_ hb0
 clear hb0
 unfold Z56.f at h
 by_cases c2 : (l0.length : Int) > 24
 ·rw [if_pos c2] at h
  have c2b0 : decide (24 < (l0.length : Int)) = true := oC_ c2
  have c2b1 : decide (24 < l0.length) = true := oC_ (by omega)
  clear c2
  obtain rfl := Option.some.inj h
  go_enter Try.func109, Try.ntmps109
  go_upto_region 1 with (fail)
  refine wp_region_lit ?_
  refine wpList_val rfl (.agg Z24) w (by as_aux_lemma => kernel_rfl) ?_
  refine wpList_val rfl (.pointer (some ⟨w.heap.size, 0, none⟩)) (w.alloc (.cells Z24 137)) (by as_aux_lemma => kernel_rfl) ?_
  refine wpList_store_row rfl 137 (.tmp 3) (.tmp 6) rfl w.heap.size Z24 rfl rfl 137 Z24 (heap_alloc_new _ _) (by as_aux_lemma => kernel_rfl) rfl (by as_aux_lemma => kernel_rfl) ?_
  rw [row_same _ _ _ _ (heap_alloc_new _ _)]
  generalize w.alloc (.cells Z24 137) = wq at HB0 ⊢
  generalize Value.agg Z24 = ag
  go_wp2
  go_ret
  exact ⟨rfl, HB0.out⟩
 ·rw [if_neg c2] at h
  have hn : l0.length ≤ 24 := by omega
  have HN := A_ hn
  clear hn
  have c2b0 : decide (24 < (l0.length : Int)) = false := oD_ c2
  have c2b1 : decide (24 < l0.length) = false := oD_ (by omega)
  clear c2
  have H' := A_ h
  clear h
  go_enter Try.func109, Try.ntmps109
  go_upto_region 1 with (fail)
  refine wp_region_lit ?_
  refine wpList_val rfl (.agg Z24) w (by as_aux_lemma => kernel_rfl) ?_
  refine wpList_val rfl (.pointer (some ⟨w.heap.size, 0, none⟩)) (w.alloc (.cells Z24 137)) (by as_aux_lemma => kernel_rfl) ?_
  refine wpList_store_row rfl 137 (.tmp 3) (.tmp 6) rfl w.heap.size Z24 rfl rfl 137 Z24 (heap_alloc_new _ _) (by as_aux_lemma => kernel_rfl) rfl (by as_aux_lemma => kernel_rfl) ?_
  rw [row_same _ _ _ _ (heap_alloc_new _ _)]
  generalize w.alloc (.cells Z24 137) = wq at HB0 HST ⊢
  generalize Value.agg Z24 = ag
  go_wp2
  go_loopg [12] k (fun kq v12 w' => ∃ (s : List Bool) (i : Int), v12 = .int .i64 i ∧ Aside0 (Z56.l0 kq l0 s i = some r) ∧ Aside0 (kq ≤ k) ∧ Aside0 (s.length = 24) ∧ Aside0 (Kd.R Kd.bool 137 w' w.heap.size (fun _ => True) (.slice (some ⟨w.heap.size, 0, none⟩) 24 24) s) ∧ Aside0 (Below w.heap.size w w'))
  case atStart => exact ⟨List.replicate 24 false, 0, rfl, H', ⟨nA_ _⟩, ⟨rfl⟩, HST, HB0⟩
  case round =>
   clear H' HST HB0
   obtain ⟨s, i, rfl, HA, HK1, HS, HO, HB⟩ := hrel
   cases gk with
   | zero => exact absurd HA.out (by simp [Z56.l0])
   | succ k1 =>
    have H := HA.out
    clear HA
    simp only [Z56.l0] at H
    by_cases c3 : i < (l0.length : Int)
    ·rw [if_pos c3] at H
     have c4 := cp_ H
     replace H := ca_ H
     have c3b0 := oC_ c3
     have c4b0 := oC_ c4
     obtain ⟨ad, e0, hx⟩ := Kd.at_int HR0.out i c4 c3
     cases e0
     replace hx := (HB.out.cell (World.block_lt_of_cell? w _ hx)).trans hx
     replace c3 := eq_true c3
     replace c4 := eq_true c4
     by_cases c5 : rd l0 i < 0
     ·rw [if_pos c5] at H
      have c5b0 := oC_ c5
      clear c5
      obtain rfl := Option.some.inj H
      go_wp2
      go_ret
      exact ⟨rfl, HB.out⟩
     ·rw [if_neg c5] at H
      have c5b0 := oD_ c5
      by_cases c6 : rd l0 i ≥ (l0.length : Int)
      ·rw [if_pos c6] at H
       have c6b0 : decide ((l0.length : Int) ≤ rd l0 i) = true := oC_ c6
       clear c5 c6
       obtain rfl := Option.some.inj H
       go_wp2
       go_ret
       exact ⟨rfl, HB.out⟩
      ·rw [if_neg c6] at H
       have c6b0 : decide ((l0.length : Int) ≤ rd l0 i) = false := oD_ c6
       have p1 : 0 ≤ rd l0 i := by omega
       have p2 : rd l0 i < ((24 : Nat) : Int) := by have := HN.out; omega
       have p2' : rd l0 i < 24 := p2
       obtain ⟨hy, hz⟩ := Kd.R_celln false HO.out (rd l0 i) p1 p2
       have p1b : decide (0 ≤ rd l0 i) = true := oC_ p1
       have p2b : decide (rd l0 i < 24) = true := oC_ p2'
       clear c5 c6
       by_cases c7 : rdOf false s (rd l0 i) = true
       ·rw [if_pos c7] at H
        rw [c7] at hy
        clear c7
        obtain rfl := Option.some.inj H
        go_wp2
        go_ret
        exact ⟨rfl, HB.out⟩
       ·rw [if_neg c7] at H
        replace c7 := Bool.eq_false_iff.mpr c7
        rw [c7] at hy
        clear c7
        have H' := A_ H
        clear H
        have HP := Kd.R_putg HO.out (rd l0 i) true
        have HP' := A_ HP
        clear HP
        go_wp2
        go_roundg k1
        case measure => have := HK1.out; omega
        case rel => exact ⟨s.set (rd l0 i).toNat true, wrap64 (i + 1), rfl, H', ⟨by have := HK1.out; omega⟩, ⟨by rw [List.length_set]; exact HS.out⟩, ⟨HP'.out.1⟩, ⟨bD_ HB.out (nA_ _)⟩⟩
    ·rw [if_neg c3] at H
     have c3b0 := oD_ c3
     clear c3
     obtain rfl := Option.some.inj H
     go_wp2
     go_ret
     exact ⟨rfl, HB.out⟩
end Go.Proofs.Ytoijcallajegfaa.A
end
section
namespace Go.Proofs.Ytoijcallajegfaa.A
open Go.RowKit Go.Proofs.YtoijcallajegfaaW.PrintWords Go.Proofs.YtoijcallajegfaaW.PrintLast Go.Proofs.YtoijcallajegfaaW.PrintMore
attribute [local go_sem] max2_int min2_int max_two min_two max_three min_three max_four min_four
set_option linter.unusedVariables false
set_option linter.unusedSimpArgs false
mutual
def Z12.j0 : Nat → List Int → List Int → Bool → Option (Bool)
 | 0, _, _, _ => none
 | k + 1, x0, x1, x29 => if x29 = true then (some false) else (if 0 ≤ (x0.length : Int) then (if ((x0.length : Int) : Int).toNat ≤ 281474976710656 then ((some (List.replicate ((x0.length : Int) : Int).toNat false : List Bool)).bind fun y117 => (if 0 < (y117.length : Int) then (Z12.l0 k x0 x1 (y117.set (0 : Int).toNat true) (([0] : List Int)) 0) else (none))) else (none)) else (none))
def Z12.l0 : Nat → List Int → List Int → List Bool → List Int → Int → Option (Bool)
 | 0, _, _, _, _, _ => none
 | k + 1, x0, x1, x5, x6, x7 => if x7 < (x6.length : Int) then (if 0 ≤ x7 then (if 0 ≤ (rd x6 x7) then (if (rd x6 x7) < (x0.length : Int) then (if (rd x6 x7) < (x1.length : Int) then ((some (([rd x0 (rd x6 x7), rd x1 (rd x6 x7)] : List Int) : List Int)).bind fun y128 => (Z12.l1 k x0 x1 x5 x6 x7 y128 (y128.length : Int) 0)) else (none)) else (none)) else (none)) else (none)) else (some ((x6.length : Int) == (x0.length : Int)))
def Z12.l1 : Nat → List Int → List Int → List Bool → List Int → Int → List Int → Int → Int → Option (Bool)
 | 0, _, _, _, _, _, _, _, _ => none
 | k + 1, x0, x1, x5, x6, x7, x56, x57, x58 => if x58 < x57 then (if 0 ≤ x58 then (if x58 < (x56.length : Int) then (if 0 ≤ (rd x56 x58) then (if (rd x56 x58) < (x5.length : Int) then (if (rdOf false x5 (rd x56 x58) = true) then (Z12.l1 k x0 x1 x5 x6 x7 x56 x57 (wrap64 (x58 + 1))) else (if x6.length < 17592186044416 then (Z12.l1 k x0 x1 (x5.set ((rd x56 x58) : Int).toNat true) (x6 ++ [rd x56 x58]) x7 x56 x57 (wrap64 (x58 + 1))) else (none))) else (none)) else (none)) else (none)) else (none)) else (Z12.l0 k x0 x1 x5 x6 (wrap64 (x7 + 1)))
end
def Z12.f (k : Nat) (l0 : List Int) (l1 : List Int) : Option (Bool) := (Z56.f k l0).bind fun t115 => (if t115 = true then ((Z56.f k l1).bind fun t116 => (if t116 = true then (if (l0.length : Int) = (l1.length : Int) then (Z12.j0 k l0 l1 ((l0.length : Int) == 0)) else (Z12.j0 k l0 l1 true)) else (Z12.j0 k l0 l1 true))) else (Z12.j0 k l0 l1 true))
theorem Z12.mono_l : ∀ k, (∀ y0 y1 y2, LeO (Z12.j0 k y0 y1 y2) (Z12.j0 (k + 1) y0 y1 y2)) ∧ (∀ y0 y1 y2 y3 y4, LeO (Z12.l0 k y0 y1 y2 y3 y4) (Z12.l0 (k + 1) y0 y1 y2 y3 y4)) ∧ (∀ y0 y1 y2 y3 y4 y5 y6 y7, LeO (Z12.l1 k y0 y1 y2 y3 y4 y5 y6 y7) (Z12.l1 (k + 1) y0 y1 y2 y3 y4 y5 y6 y7))
 | 0 => ⟨fun _ _ _ r h => by simp [Z12.j0] at h, fun _ _ _ _ _ r h => by simp [Z12.l0] at h, fun _ _ _ _ _ _ _ _ r h => by simp [Z12.l1] at h⟩
 | k + 1 => by
  obtain ⟨ih0, ih1, ih2⟩ := Z12.mono_l k
  refine ⟨?_, ?_, ?_⟩
  ·intro y0 y1 y2
   unfold Z12.j0
   repeat' first|exact ih0 _ _ _|exact ih1 _ _ _ _ _|exact ih2 _ _ _ _ _ _ _ _|exact Z56.mono _ _|exact lo_|refine LeO.ite ?_ ?_|refine LeO.bind ?_ (fun _ => ?_)
  ·intro y0 y1 y2 y3 y4
   unfold Z12.l0
   repeat' first|exact ih0 _ _ _|exact ih1 _ _ _ _ _|exact ih2 _ _ _ _ _ _ _ _|exact Z56.mono _ _|exact lo_|refine LeO.ite ?_ ?_|refine LeO.bind ?_ (fun _ => ?_)
  ·intro y0 y1 y2 y3 y4 y5 y6 y7
   unfold Z12.l1
   repeat' first|exact ih0 _ _ _|exact ih1 _ _ _ _ _|exact ih2 _ _ _ _ _ _ _ _|exact Z56.mono _ _|exact lo_|refine LeO.ite ?_ ?_|refine LeO.bind ?_ (fun _ => ?_)
theorem Z12.mono : ∀ a0 a1 k, LeO (Z12.f k a0 a1) (Z12.f (k + 1) a0 a1) := by
 intro a0 a1 k
 obtain ⟨ih0, ih1, ih2⟩ := Z12.mono_l k
 unfold Z12.f
 repeat' first|exact ih0 _ _ _|exact ih1 _ _ _ _ _|exact ih2 _ _ _ _ _ _ _ _|exact Z56.mono _ _|exact lo_|refine LeO.ite ?_ ?_|refine LeO.bind ?_ (fun _ => ?_)
def Z12.T9 : Bool × List (List Nat × List Nat) := (true, [([], []), ([], []), ([], []), ([1, 2], [1, 2]), ([3], [3]), ([0, 4], [0, 4]), ([5], [5]), ([], []), ([], []), ([], []), ([8, 9], [8, 9]), ([10], [10]), ([7, 11], [7, 11]), ([12], [12]), ([6, 13], [6, 13]), ([14], [14]), ([], [])])
def Z12.B9 : List Nat := [0, 0, 0, 6, 14, 31, 63, 0, 0, 0, 768, 1792, 3968, 8064, 16383, 32767, 0]
theorem Z12.tab9 : rtab .any (opsOf Try.f61 9) = Z12.T9 := by kernel_rfl
theorem Z12.bits9 : waitsOk Z12.T9.2 Z12.B9 = true := by kernel_rfl
set_option maxHeartbeats 8000000 in
set_option maxRecDepth 100000 in
theorem Z12.calls (k : Nat) (A0 : Option Addr) (c0 : Nat) (l0 : List Int) (A1 : Option Addr) (c1 : Nat) (l1 : List Int) (r : Bool) (w : World) (hr0 : Kd.C (Kd.int .i64) w A0 l0.length l0) (hc0 : l0.length ≤ c0) (hr1 : Kd.C (Kd.int .i64) w A1 l1.length l1) (hc1 : l1.length ≤ c1) (h : Z12.f k l0 l1 = some r) :
  Calls Try.prog 61 #[.slice A0 l0.length c0, .slice A1 l1.length c1] w fun e w' => e = .returned (.bool r) ∧ Below w.heap.size w w' := by
 have HR0 := A_ hr0
 have HC0 := A_ hc0
 clear hr0 hc0
 have HR1 := A_ hr1
 have HC1 := A_ hc1
 clear hr1 hc1
 have HB := A_ (Below.refl w.heap.size w)
 have H := h
 unfold Z12.f at H
 clear h
 have HC3 := A_ H
 clear H
 go_enter Try.func61, Try.ntmps61
 go_upto_region 1 with (fail)
 go_cut [29] (fun v29 wc => ∃ (kq : Nat) (x29_2 : Bool), v29 = .bool x29_2 ∧ Aside0 (Z12.j0 kq l0 l1 x29_2 = some r) ∧ Aside0 (kq ≤ k) ∧ Aside0 (Below w.heap.size w wc))
 case first =>
  have H := HC3.out
  clear HC3
  obtain ⟨t115, A4, H⟩ := bi_ H
  by_cases c5 : t115 = true
  ·subst c5
   rw [if_pos rfl] at H
   obtain ⟨t116, A6, H⟩ := bi_ H
   by_cases c7 : t116 = true
   ·subst c7
    rw [if_pos rfl] at H
    by_cases c8 : (l0.length : Int) = (l1.length : Int)
    ·rw [if_pos c8] at H
     have c8b0 : ((l0.length : Int) == (l1.length : Int)) = true := beq_iff_eq.mpr c8
     have c8b1 : ((l0.length : Int) != (l1.length : Int)) = false := bne_eq_false_iff_eq.mpr c8
     have c8b2 : (l0.length == l1.length) = true := by first | simpa using c8 | (simp at c8 ⊢; omega)
     clear c8
     (first | rw [c8b0] | (simp only [i64_w, i32_w]; rw [c8b0]) | skip)
     have H' := A_ H
     clear H
     go_wp2_with (first | ((with_reducible refine gA_ (f := 109) rfl ?_); refine gL_ (some 11) Try.func109 #[.slice A0 l0.length c0] rfl qa_ ?_; (with_reducible refine (Z56.calls k _ _ l0 true _ (cb_ HR0) HC0.out A4.out).mono ?_); rintro e w9 ⟨rfl, hb⟩; refine ⟨_, rfl, ?_⟩; replace HB := b1_ hb; clear hb) | (go_at_call 109; (with_reducible refine (Z56.calls k _ _ l1 true _ (cb_ HR1) HC1.out A6.out).mono ?_); rintro e w10 ⟨rfl, hb⟩; replace HB := b1_ hb; clear hb))
     go_meet
     case rel => exact ⟨_, (((l0.length : Int) == 0)), qc_, H', ⟨qd_⟩, ⟨hB_⟩⟩
    ·rw [if_neg c8] at H
     have c8b0 : ((l0.length : Int) == (l1.length : Int)) = false := beq_eq_false_iff_ne.mpr c8
     have c8b1 : ((l0.length : Int) != (l1.length : Int)) = true := bne_iff_ne.mpr c8
     have c8b2 : (l0.length == l1.length) = false := by first | simpa using c8 | (simp at c8 ⊢; omega)
     (first | rw [c8b0] | (simp only [i64_w, i32_w]; rw [c8b0]) | skip)
     have H' := A_ H
     clear H
     go_wp2_with (first | ((with_reducible refine gA_ (f := 109) rfl ?_); refine gL_ (some 11) Try.func109 #[.slice A0 l0.length c0] rfl qa_ ?_; (with_reducible refine (Z56.calls k _ _ l0 true _ (cb_ HR0) HC0.out A4.out).mono ?_); rintro e w11 ⟨rfl, hb⟩; refine ⟨_, rfl, ?_⟩; replace HB := b1_ hb; clear hb) | (go_at_call 109; (with_reducible refine (Z56.calls k _ _ l1 true _ (cb_ HR1) HC1.out A6.out).mono ?_); rintro e w12 ⟨rfl, hb⟩; replace HB := b1_ hb; clear hb))
     go_meet
     case rel => exact ⟨_, (true), qc_, H', ⟨qd_⟩, ⟨hB_⟩⟩
   ·replace c7 := Bool.eq_false_iff.mpr c7
    subst c7
    have H1 : (Z12.j0 k l0 l1 true) = some r := by rw [if_neg (show ¬ (false = true) by decide)] at H; exact H
    clear H
    have H := H1
    clear H1
    have H' := A_ H
    clear H
    go_wp2_with (first | ((with_reducible refine gA_ (f := 109) rfl ?_); refine gL_ (some 11) Try.func109 #[.slice A0 l0.length c0] rfl qa_ ?_; (with_reducible refine (Z56.calls k _ _ l0 true _ (cb_ HR0) HC0.out A4.out).mono ?_); rintro e w13 ⟨rfl, hb⟩; refine ⟨_, rfl, ?_⟩; replace HB := b1_ hb; clear hb) | (go_at_call 109; (with_reducible refine (Z56.calls k _ _ l1 false _ (cb_ HR1) HC1.out A6.out).mono ?_); rintro e w14 ⟨rfl, hb⟩; replace HB := b1_ hb; clear hb))
    go_meet
    case rel => exact ⟨_, (true), qc_, H', ⟨qd_⟩, ⟨hB_⟩⟩
  ·replace c5 := Bool.eq_false_iff.mpr c5
   subst c5
   have H1 : (Z12.j0 k l0 l1 true) = some r := by rw [if_neg (show ¬ (false = true) by decide)] at H; exact H
   clear H
   have H := H1
   clear H1
   have H' := A_ H
   clear H
   go_wp2_with (first | ((with_reducible refine gA_ (f := 109) rfl ?_); refine gL_ (some 11) Try.func109 #[.slice A0 l0.length c0] rfl qa_ ?_; (with_reducible refine (Z56.calls k _ _ l0 false _ (cb_ HR0) HC0.out A4.out).mono ?_); rintro e w15 ⟨rfl, hb⟩; refine ⟨_, rfl, ?_⟩; replace HB := b1_ hb; clear hb))
   go_meet
   case rel => exact ⟨_, (true), qc_, H', ⟨qd_⟩, ⟨hB_⟩⟩
 case rest =>
  clear HC3
  obtain ⟨kq, x29_2, rfl, HA, HJ2, HB⟩ := hcut
  cases kq with
  | zero => exact absurd HA.out (by simp [Z12.j0])
  | succ kj2 =>
   have H := HA.out
   clear HA
   simp only [Z12.j0] at H
   by_cases c16 : x29_2 = true
   ·subst c16
    rw [if_pos rfl] at H
    obtain rfl := Option.some.inj H
    go_wp2
    go_ret
    exact ⟨qb_, hB_⟩
   ·replace c16 := Bool.eq_false_iff.mpr c16
    subst c16
    have H1 : (if 0 ≤ (l0.length : Int) then (if ((l0.length : Int) : Int).toNat ≤ 281474976710656 then ((some (List.replicate ((l0.length : Int) : Int).toNat false : List Bool)).bind fun y117 => (if 0 < (y117.length : Int) then (Z12.l0 kj2 l0 l1 (y117.set (0 : Int).toNat true) (([0] : List Int)) 0) else (none))) else (none)) else (none)) = some r := by rw [if_neg (show ¬ (false = true) by decide)] at H; exact H
    clear H
    have H := H1
    clear H1
    have c17 := cp_ H
    replace H := ca_ H
    have c17b0 := eq_true c17
    have c17b1 := oC_ c17
    clear c17
    have c18 := cp_ H
    replace H := ca_ H
    have c18b0 := eq_true c18
    have c18b1 := oC_ c18
    clear c18
    obtain ⟨y117, hy117⟩ : ∃ y_ : List Bool, y_ = (List.replicate ((l0.length : Int) : Int).toNat false) := ⟨_, rfl⟩
    replace H : (if 0 < (y117.length : Int) then (Z12.l0 kj2 l0 l1 (y117.set (0 : Int).toNat true) (([0] : List Int)) 0) else (none)) = some r := by first | (rw [hy117]; exact H) | exact H
    have Ny117 := A_ hy117
    clear hy117
    have c19 := cp_ H
    replace H := ca_ H
    have c19b0 := oC_ c19
    have c19b1 : decide (0 < y117.length) = true := oC_ (by omega)
    clear c19
    obtain ⟨y120, hy120⟩ : ∃ y_ : List Bool, y_ = (y117.set (0 : Int).toNat true) := ⟨_, rfl⟩
    replace H : (Z12.l0 kj2 l0 l1 y120 (([0] : List Int)) 0) = some r := by first | (rw [hy120]; exact H) | exact H
    have Ny120 := A_ hy120
    clear hy120
    obtain ⟨y121, hy121⟩ : ∃ y_ : List Int, y_ = (([0] : List Int)) := ⟨_, rfl⟩
    replace H : (Z12.l0 kj2 l0 l1 y120 y121 0) = some r := by first | (rw [hy121]; exact H) | exact H
    have Ny121 := A_ hy121
    clear hy121
    have H' := A_ H
    clear H
    go_wp2_with (first | ((with_reducible refine gB_ (N := 32) rfl ?_); (try (refine gate_guard (by rfl) ?_; dsimp only)); refine Kd.R_make Kd.bool _ 4 rfl (N := 32) rfl 111 _ _ rfl (l0.length : Int) rfl rfl Try.underlying111 (.bool false) 1 info4 rfl (by decide) (by omega) false (ok := fun _ => True) (okp := fun _ => True) rfl (fun _ hk => hk) trivial (oB_ qe_) (Nat.le_trans (Nat.mul_le_mul_right _ (oB_ qe_ : (l0.length : Int).toNat ≤ 281474976710656)) (by omega)) (Below.refl _ _) (nA_ _) ?_; intro v118 w21 ho22 hb hg_ hnew_; clear hg_ hnew_; (first | rw [← Ny117.out] at ho22 | (simp only [Int.reduceToNat] at ho22; rw [← Ny117.out] at ho22)); have HO119 := rl_ w ho22; replace HB := b1_ hb; clear hb ho22; have p20 : 0 ≤ (0 : Int) := (by omega); have q20 : (0 : Int) < ((y117.length : Int) : Int) := oB_ qe_; have qi20 : (0 < y117.length) = True := eq_true (by omega); obtain ⟨go20, co20, eo20, gb20, gl20, cl20, HG20⟩ := Kd.R_form HO119.out (by omega); (first | cases eo20 | (injection eo20 with ea_ en_ ec_; (first | subst ea_ | (injection ea_ with ea_; subst ea_)); subst ec_; clear en_)); have GB20 := A_ gb20; have GG20 := A_ HG20; clear gb20 gl20 HG20; obtain ⟨hx20_0, hf20_0⟩ := Kd.R_celln false HO119.out (0 : Int) p20 q20; (try rw [show ((0 : Int)).toNat = 0 from rfl] at hx20_0); (try simp only [Nat.reduceMul, Nat.zero_mul, Nat.zero_add, Nat.reduceAdd] at hx20_0); (try rw [show ((0 : Int)).toNat = 0 from rfl] at hf20_0); (try simp only [Nat.reduceMul, Nat.zero_mul, Nat.zero_add, Nat.reduceAdd] at hf20_0); replace p20 := eq_true p20; replace q20 := eq_true q20; obtain ⟨hy23_, hz23_⟩ := Kd.R_celln false HO119.out (0 : Int) (by omega) (oB_ qe_); (try simp only [Int.reduceToNat, Int.toNat_zero, Int.toNat_ofNat, Nat.reduceMul, Nat.zero_mul, Nat.zero_add] at hy23_ hz23_); (try rw [show ((0 : Int)).toNat = 0 from rfl] at hy23_); (try rw [show ((0 : Int)).toNat = 0 from rfl] at hz23_); have HP23 := Kd.R_putg HO119.out (0 : Int) true) | ((with_reducible refine gate_store (t := 4) (p := 34) rfl ?_); refine store_event (t := 4) (p := 34) (v := ?vo_w24) (w1 := (w21.setCell ⟨go20, (0 : Int).toNat, none⟩ (.bool true))) ?hg ?ho ?hn ?hr ?_; (case ho => rfl); (case hg => rfl); (case hn => rfl); (case hr => first | (go_simp; done) | (go_simp; rfl)); intro w24 hw; have hg : w21.grownBy w24 (some go20) := (by rw [hw]; exact HP23.2); have hp_ : Kd.R Kd.bool 4 w24 w.heap.size (fun _ => True) (.slice (some ⟨go20, 0, none⟩) y117.length co20) y120 := (by rw [hw, Ny120.out]; exact HP23.1); clear HP23; replace HO119 := A_ (hp_); replace HB := A_ ((by rw [hw]; exact bD_ (HB.out) GB20.out : Below w.heap.size w w24)); clear hg hw hp_) | ((with_reducible refine gB_ (N := 35) rfl ?_); (try (refine gate_guard (by rfl) ?_; dsimp only)); refine Kd.R_lit (Kd.int .i64) _ 3 ?hg (N := 35) ?hd (xs := ([0] : List Int)) (inner := [.int .i64 0]) (ok := fun _ => True) (okp := fun _ => True) ?hr ?hp (fun _ hk => hk) trivial (Below.refl _ _) (nA_ _) (by simp) ?_; (case hd => rfl); (case hg => rfl); (case hr => first | (go_simp; done) | (go_simp; rfl)); (case hp => exact (Reps.one (show Kd.M (Kd.int .i64) _ _ _ 0 [.int .i64 0] from rfl) (Reps.none _ _))); intro v122 w25 ho26 hb hg_ hnew_; clear hg_ hnew_; (first | rw [← Ny121.out] at ho26 | (simp only [Int.reduceToNat] at ho26; rw [← Ny121.out] at ho26)); replace HO119 := rb_ HO119 hb; have HO123 := rl_ w ho26; replace HB := b1_ hb; clear hb ho26))
    go_loopg [6, 7] kj2 (fun kq v6 v7 w' => ∃ (x5_2 : List Bool) (x6_2 : List Int) (x7_2 : Int), v7 = .int .i64 x7_2 ∧ Aside0 (Z12.l0 kq l0 l1 x5_2 x6_2 x7_2 = some r) ∧ Aside0 (kq ≤ kj2) ∧ Aside0 (Kd.R Kd.bool 4 w' w.heap.size (fun _ => True) (.slice (some ⟨go20, 0, none⟩) y117.length co20) x5_2) ∧ Aside0 (Kd.R (Kd.int .i64) 3 w' w.heap.size (fun _ => True) v6 x6_2) ∧ Aside0 (Below w.heap.size w w'))
    case atStart => exact ⟨(y120), (y121), (0), qc_, H', ⟨nA_ _⟩, ⟨(rr_ HO119)⟩, ⟨(rr_ HO123)⟩, ⟨hB_⟩⟩
    case round =>
     clear H'
     obtain ⟨x5_2, x6_2, x7_2, rfl, HA, HK2, HO_5, HO_6, HB⟩ := hrel
     have hl5_2 := (Kd.R_reads' HO_5.out).1
     rw [hl5_2] at HO_5
     (try simp only [hl5_2])
     (try simp only [hl5_2] at HO_6)
     cases gk with
     | zero => exact absurd HA.out (by simp [Z12.l0])
     | succ k2 =>
      have H := HA.out
      clear HA
      simp only [Z12.l0] at H
      by_cases c27 : x7_2 < (x6_2.length : Int)
      ·rw [if_pos c27] at H
       have c27b0 := oC_ c27
       clear c27
       have c28 := cp_ H
       replace H := ca_ H
       have c28b0 := oC_ c28
       clear c28
       have c29 := cp_ H
       replace H := ca_ H
       have c29b0 := oC_ c29
       clear c29
       have c30 := cp_ H
       replace H := ca_ H
       have c30b0 := oC_ c30
       clear c30
       have c31 := cp_ H
       replace H := ca_ H
       have c31b0 := oC_ c31
       clear c31
       obtain ⟨y128, hy128⟩ : ∃ y_ : List Int, y_ = (([rd l0 (rd x6_2 x7_2), rd l1 (rd x6_2 x7_2)] : List Int)) := ⟨_, rfl⟩
       replace H : (Z12.l1 k2 l0 l1 x5_2 x6_2 x7_2 y128 (y128.length : Int) 0) = some r := by first | (rw [hy128]; exact H) | exact H
       have Ny128 := A_ hy128
       clear hy128
       have H' := A_ H
       clear H
       obtain ⟨Ao32, co32, eo32⟩ := Kd.R_slice HO_6.out
       subst eo32
       try go_wp2
       replace HO_5 := A_ (rC_ HO_5.out)
       replace HO_6 := A_ (rC_ HO_6.out)
       replace HB := A_ (bC_ HB.out)
       have p124 : 0 ≤ (x7_2 : Int) := oB_ qe_
       have q124 : x7_2 < (x6_2.length : Int) := oB_ qe_
       obtain ⟨ad124, e124, hx124_0⟩ := Kd.at_int (Kd.R_reads' HO_6.out).2.2 x7_2 p124 q124
       cases e124
       replace p124 := eq_true p124
       replace q124 := eq_true q124
       have p125 : 0 ≤ ((rd x6_2 x7_2) : Int) := oB_ qe_
       have q125 : (rd x6_2 x7_2) < (l0.length : Int) := oB_ qe_
       obtain ⟨ad125, e125, hx125_0⟩ := Kd.at_int HR0.out (rd x6_2 x7_2) p125 q125
       have hw125_0 := hx125_0
       cases e125
       replace hx125_0 := (HB.out.cell (World.block_lt_of_cell? w _ hx125_0)).trans hx125_0
       replace p125 := eq_true p125
       replace q125 := eq_true q125
       have p126 : 0 ≤ (x7_2 : Int) := oB_ qe_
       have q126 : x7_2 < (x6_2.length : Int) := oB_ qe_
       obtain ⟨ad126, e126, hx126_0⟩ := Kd.at_int (Kd.R_reads' HO_6.out).2.2 x7_2 p126 q126
       obtain rfl : ad124 = ad126 := (by injection e126)
       replace p126 := eq_true p126
       replace q126 := eq_true q126
       have p127 : 0 ≤ ((rd x6_2 x7_2) : Int) := oB_ qe_
       have q127 : (rd x6_2 x7_2) < (l1.length : Int) := oB_ qe_
       obtain ⟨ad127, e127, hx127_0⟩ := Kd.at_int HR1.out (rd x6_2 x7_2) p127 q127
       have hw127_0 := hx127_0
       cases e127
       replace hx127_0 := (HB.out.cell (World.block_lt_of_cell? w _ hx127_0)).trans hx127_0
       replace p127 := eq_true p127
       replace q127 := eq_true q127
       refine start_ (n := 17) (S := fun w' => w'.cell? (ad124.add (x7_2).toNat) = some (.int .i64 (rd x6_2 x7_2)) ∧ w'.cell? (ad125.add ((rd x6_2 x7_2)).toNat) = some (.int .i64 (rd l0 (rd x6_2 x7_2))) ∧ w'.cell? (ad124.add (x7_2).toNat) = some (.int .i64 (rd x6_2 x7_2)) ∧ w'.cell? (ad127.add ((rd x6_2 x7_2)).toNat) = some (.int .i64 (rd l1 (rd x6_2 x7_2)))) (ds := []) (bl_ 17 0) (by kernel_rfl) rfl (by kernel_rfl) ⟨hx124_0, ((HB.out.cell (World.block_lt_of_cell? w _ hw125_0)).trans hw125_0), hx126_0, ((HB.out.cell (World.block_lt_of_cell? w _ hw127_0)).trans hw127_0)⟩ (fun hHeld => ?_); refine with_tabW Z12.tab9 Z12.bits9 (fun HT_ HW_ => ?_)
       generalize wr.drew = w33 at HO_5 HO_6 HB hx124_0 hx125_0 hx126_0 hx127_0 hHeld ⊢
       refine pu_ 0 (some 42) (bl_ 17 1) HT_ ?_
       refine pu_ 1 (some 43) (bl_ 17 3) HT_ ?_
       refine pu_ 2 (some 44) (bl_ 17 7) HT_ ?_
       refine pu_ 3 (some 45) (bl_ 17 15) HT_ ?_
       refine pu_ 7 (some 49) (bl_ 17 143) HT_ ?_
       refine pu_ 8 (some 50) (bl_ 17 399) HT_ ?_
       refine pu_ 9 (some 51) (bl_ 17 911) HT_ ?_
       refine pu_ 10 (some 52) (bl_ 17 1935) HT_ ?_
       refine pu_ 16 (some 58) (bl_ 17 67471) HT_ ?_
       refine ta_ 4 (some 46) (bl_ 17 67487) HT_ HW_ hHeld ?_
       refine pu_ 5 (some 47) (bl_ 17 67519) HT_ ?_
       refine ta_ 6 (some 48) (bl_ 17 67583) HT_ HW_ hHeld ?_
       refine ta_ 11 (some 53) (bl_ 17 69631) HT_ HW_ hHeld ?_
       refine pu_ 12 (some 54) (bl_ 17 73727) HT_ ?_
       refine ta_ 13 (some 55) (bl_ 17 81919) HT_ HW_ hHeld ?_
       refine on_ 14 (some 56) (bl_ 17 98303) HT_ (fun K hK => ?_)
       refine Kd.R_lit_step (Kd.int .i64) _ 3 ?hg (N := 56) ?hd (xs := ([rd l0 (rd x6_2 x7_2), rd l1 (rd x6_2 x7_2)] : List Int)) (inner := [.int .i64 (rd l0 (rd x6_2 x7_2)), .int .i64 (rd l1 (rd x6_2 x7_2))]) (ok := fun _ => True) (okp := fun _ => True) ?hr ?hp (fun _ hk => hk) trivial (Below.refl _ _) (nA_ _) (by simp) ?_; (case hd => rfl); (case hg => rfl); (case hr => first | (go_simp; done) | (go_simp; rfl)); (case hp => exact (Reps.one (show Kd.M (Kd.int .i64) _ _ _ (rd l0 (rd x6_2 x7_2)) [.int .i64 (rd l0 (rd x6_2 x7_2))] from rfl) (Reps.one (show Kd.M (Kd.int .i64) _ _ _ (rd l1 (rd x6_2 x7_2)) [.int .i64 (rd l1 (rd x6_2 x7_2))] from rfl) (Reps.none _ _))))
       intro v129 w34 ho35 hb hg_ hnew_
       have HS0_ := (hb.cell (World.block_lt_of_cell? _ _ (hHeld.1))).trans (hHeld.1)
       have HS2_ := (hb.cell (World.block_lt_of_cell? _ _ (hHeld.2.2.1))).trans (hHeld.2.2.1)
       clear hg_ hnew_
       (first | rw [← Ny128.out] at ho35 | (simp only [Int.reduceToNat] at ho35; rw [← Ny128.out] at ho35))
       replace HO_5 := rb_ HO_5 hb
       have HO130 := A_ (rE_ (Kd.R_new' ho35 (Kd.R_lt (rr_ HO_6))) (bF_ hB_))
       replace HO_6 := A_ (Kd.R_elder' (rr_ HO_6) (Kd.R_base ho35) hb)
       replace HB := b1_ hb
       clear hb ho35
       obtain ⟨Ao36, co36, eo36⟩ := Kd.R_slice HO130.out
       (first | subst eo36 | (injection eo36 with f1_ f2_ f3_; have f4_ := f1_.symm; have f5_ := f3_.symm; clear f1_ f2_ f3_; subst f4_; subst f5_))
       refine hK.out _ _ ⟨HS0_, ((HB.out.cell (World.block_lt_of_cell? w _ hw125_0)).trans hw125_0), HS2_, ((HB.out.cell (World.block_lt_of_cell? w _ hw127_0)).trans hw127_0)⟩ (fun hHeld => ?_)
       clear hK K
       refine no_ (some 56) ?_
       refine pu_ 15 (some 57) (bl_ 17 131071) HT_ ?_
       refine done_ (done_of HT_.out (by kernel_rfl)) ?_
       try go_wp2
       go_loopg [6, 58] k2 (fun kq v6 v58 w' => ∃ (x5_3 : List Bool) (x6_3 : List Int) (x58_3 : Int), v58 = .int .i64 x58_3 ∧ Aside0 (Z12.l1 kq l0 l1 x5_3 x6_3 x7_2 y128 (y128.length : Int) x58_3 = some r) ∧ Aside0 (kq ≤ k2) ∧ Aside0 (Kd.R Kd.bool 4 w' w.heap.size (fun _ => True) (.slice (some ⟨go20, 0, none⟩) x5_2.length co20) x5_3) ∧ Aside0 (Kd.R (Kd.int .i64) 3 w' w.heap.size (fun k_ => some k_ ≠ ((.slice Ao36 y128.length co36) : Value).ownBlock) v6 x6_3) ∧ Aside0 (Kd.R (Kd.int .i64) 3 w' w.heap.size (fun k_ => some k_ ≠ (v6 : Value).ownBlock) (.slice Ao36 y128.length co36) y128) ∧ Aside0 (Below w.heap.size w w'))
       case atStart => exact ⟨(x5_2), (x6_2), (0), qc_, H', ⟨nA_ _⟩, ⟨by (try simp only [hl5_2]); (with_reducible repeat (first | apply rA_ | apply rB_ | apply rC_)); exact HO_5.out⟩, ⟨by (try simp only [hl5_2]); (with_reducible repeat (first | apply rA_ | apply rB_ | apply rC_)); exact Kd.R_mono HO_6.out (fun _ hk => hk.2)⟩, ⟨by (try simp only [hl5_2]); (with_reducible repeat (first | apply rA_ | apply rB_ | apply rC_)); exact Kd.R_mono HO130.out (fun _ hk => hk.2)⟩, ⟨hB_⟩⟩
       case round =>
        clear H'
        obtain ⟨x5_3, x6_3, x58_3, rfl, HA, HK3, HO_5, HO_6, HO_56, HB⟩ := hrel
        have hl5_3 := (Kd.R_reads' HO_5.out).1
        rw [hl5_3] at HO_5
        (try simp only [hl5_3])
        (try simp only [hl5_3] at HO_6)
        (try simp only [hl5_3] at HO_56)
        cases gk with
        | zero => exact absurd HA.out (by simp [Z12.l1])
        | succ k3 =>
         have H := HA.out
         clear HA
         simp only [Z12.l1] at H
         by_cases c37 : x58_3 < (y128.length : Int)
         ·rw [if_pos c37] at H
          have c37b0 := oC_ c37
          clear c37
          have c38 := cp_ H
          replace H := ca_ H
          have c38b0 := oC_ c38
          clear c38
          have c39 := cp_ H
          replace H := ca_ H
          have c39b0 := oC_ c39
          clear c39
          have c40 := cp_ H
          replace H := ca_ H
          have c40b0 := oC_ c40
          clear c40
          have c41 := cp_ H
          replace H := ca_ H
          have c41b0 := oC_ c41
          clear c41
          obtain ⟨bq42, hbq42⟩ : ∃ b_ : Bool, b_ = (rdOf false x5_3 (rd y128 x58_3)) := ⟨_, rfl⟩
          replace H : (if (bq42 = true) then (Z12.l1 k3 l0 l1 x5_3 x6_3 x7_2 y128 (y128.length : Int) (wrap64 (x58_3 + 1))) else (if x6_3.length < 17592186044416 then (Z12.l1 k3 l0 l1 (x5_3.set ((rd y128 x58_3) : Int).toNat true) (x6_3 ++ [rd y128 x58_3]) x7_2 y128 (y128.length : Int) (wrap64 (x58_3 + 1))) else (none))) = some r := by rw [← hbq42] at H; exact H
          have Nbq42 := A_ hbq42
          clear hbq42
          by_cases c43 : (bq42 = true)
          ·subst c43
           rw [if_pos rfl] at H
           have H' := A_ H
           clear H
           have p131 : 0 ≤ (x58_3 : Int) := oB_ qe_
           have q131 : x58_3 < (y128.length : Int) := oB_ qe_
           obtain ⟨ad131, e131, hx131_0⟩ := Kd.at_int (Kd.R_reads' HO_56.out).2.2 x58_3 p131 q131
           cases e131
           replace p131 := eq_true p131
           replace q131 := eq_true q131
           have p132 : 0 ≤ ((rd y128 x58_3) : Int) := oB_ qe_
           have q132 : (rd y128 x58_3) < (x5_3.length : Int) := oB_ qe_
           obtain ⟨ad132, e132, hx132_0⟩ := Kd.at_bool (Kd.R_reads' HO_5.out).2.2 (rd y128 x58_3) p132 q132
           (try rw [← Nbq42.out] at hx132_0)
           obtain rfl : (⟨go20, 0, none⟩ : Addr) = ad132 := (by injection e132)
           (first | simp only [add_plain] at hx132_0 | simp only [add_at] at hx132_0 | simp only [Addr.add, Nat.zero_add] at hx132_0 | skip)
           replace p132 := eq_true p132
           replace q132 := eq_true q132
           go_wp2
           (try simp only [← hl5_3])
           go_roundg k3
           case measure => have := HJ2.out; have := HK2.out; have := HK3.out; omega
           case rel => exact ⟨(x5_3), (x6_3), (wrap64 (x58_3 + 1)), qc_, H', ⟨by have := HJ2.out; have := HK2.out; have := HK3.out; omega⟩, ⟨by (try simp only [hl5_2]); (try simp only [hl5_3]); (with_reducible repeat (first | apply rA_ | apply rB_ | apply rC_)); exact HO_5.out⟩, ⟨by (try simp only [hl5_2]); (try simp only [hl5_3]); (with_reducible repeat (first | apply rA_ | apply rB_ | apply rC_)); exact HO_6.out⟩, ⟨by (try simp only [hl5_2]); (try simp only [hl5_3]); (with_reducible repeat (first | apply rA_ | apply rB_ | apply rC_)); exact HO_56.out⟩, ⟨hB_⟩⟩
          ·replace c43 := Bool.eq_false_iff.mpr c43
           subst c43
           have H1 : (if x6_3.length < 17592186044416 then (Z12.l1 k3 l0 l1 (x5_3.set ((rd y128 x58_3) : Int).toNat true) (x6_3 ++ [rd y128 x58_3]) x7_2 y128 (y128.length : Int) (wrap64 (x58_3 + 1))) else (none)) = some r := by rw [if_neg (show ¬ (false = true) by decide)] at H; exact H
           clear H
           have H := H1
           clear H1
           obtain ⟨y133, hy133⟩ : ∃ y_ : List Bool, y_ = (x5_3.set ((rd y128 x58_3) : Int).toNat true) := ⟨_, rfl⟩
           replace H : (if x6_3.length < 17592186044416 then (Z12.l1 k3 l0 l1 y133 (x6_3 ++ [rd y128 x58_3]) x7_2 y128 (y128.length : Int) (wrap64 (x58_3 + 1))) else (none)) = some r := by first | (rw [hy133]; exact H) | exact H
           have Ny133 := A_ hy133
           clear hy133
           have c45 := cp_ H
           replace H := ca_ H
           have LMc45 := A_ c45
           clear c45
           obtain ⟨y134, hy134⟩ : ∃ y_ : List Int, y_ = (x6_3 ++ [rd y128 x58_3]) := ⟨_, rfl⟩
           replace H : (Z12.l1 k3 l0 l1 y133 y134 x7_2 y128 (y128.length : Int) (wrap64 (x58_3 + 1))) = some r := by first | (rw [hy134]; exact H) | exact H
           have Ny134 := A_ hy134
           clear hy134
           have H' := A_ H
           clear H
           have p131 : 0 ≤ (x58_3 : Int) := oB_ qe_
           have q131 : x58_3 < (y128.length : Int) := oB_ qe_
           obtain ⟨ad131, e131, hx131_0⟩ := Kd.at_int (Kd.R_reads' HO_56.out).2.2 x58_3 p131 q131
           cases e131
           replace p131 := eq_true p131
           replace q131 := eq_true q131
           have p132 : 0 ≤ ((rd y128 x58_3) : Int) := oB_ qe_
           have q132 : (rd y128 x58_3) < (x5_3.length : Int) := oB_ qe_
           obtain ⟨ad132, e132, hx132_0⟩ := Kd.at_bool (Kd.R_reads' HO_5.out).2.2 (rd y128 x58_3) p132 q132
           (try rw [← Nbq42.out] at hx132_0)
           obtain rfl : (⟨go20, 0, none⟩ : Addr) = ad132 := (by injection e132)
           (first | simp only [add_plain] at hx132_0 | simp only [add_at] at hx132_0 | simp only [Addr.add, Nat.zero_add] at hx132_0 | skip)
           replace p132 := eq_true p132
           replace q132 := eq_true q132
           have p44 : 0 ≤ ((rd y128 x58_3) : Int) := oB_ qe_
           have q44 : ((rd y128 x58_3) : Int) < ((x5_3.length : Int) : Int) := oB_ qe_
           obtain ⟨hx44_0, hf44_0⟩ := Kd.R_celln false HO_5.out ((rd y128 x58_3) : Int) p44 q44
           replace p44 := eq_true p44
           replace q44 := eq_true q44
           have HP46 := Kd.R_putg HO_5.out ((rd y128 x58_3) : Int) true
           go_wp2_with (first | ((with_reducible refine gate_store (t := 4) (p := 69) rfl ?_); refine store_event (t := 4) (p := 69) (v := ?vo_w47) (w1 := (wr.setCell ⟨go20, ((rd y128 x58_3) : Int).toNat, none⟩ (.bool true))) ?hg ?ho ?hn ?hr ?_; (case ho => rfl); (case hg => rfl); (case hn => rfl); (case hr => first | (go_simp; done) | (go_simp; rfl)); intro w47 hw; have hg : wr.grownBy w47 (some go20) := (by rw [hw]; exact HP46.2); have hp_ : Kd.R Kd.bool 4 w47 w.heap.size (fun _ => True) (.slice (some ⟨go20, 0, none⟩) x5_3.length co20) y133 := (by rw [hw, Ny133.out]; exact HP46.1); clear HP46; replace HO_6 := A_ (Kd.R_over' (v := (.slice (some ⟨go20, 0, none⟩) x5_3.length co20)) (rr_ HO_6) (Kd.R_typed HO_5.out) (by decide) hg); replace HO_56 := A_ (Kd.R_over' (v := (.slice (some ⟨go20, 0, none⟩) x5_3.length co20)) (rr_ HO_56) (Kd.R_typed HO_5.out) (by decide) hg); replace HO_5 := A_ (hp_); replace HB := A_ ((by rw [hw]; exact bD_ (HB.out) GB20.out : Below w.heap.size w w47)); clear hg hw hp_) | ((with_reducible refine gate_builtin (b := .append) (xs := #[.tmp 70, .tmp 72]) rfl ?_); (try (refine gate_guard (by rfl) ?_; dsimp only)); at_builtin; refine Kd.R_append (Kd.int .i64) (w0 := w) w.heap.size rfl (.tmp 70) (.tmp 72) 23 3 (.int .i64 0) 8 rfl Try.underlying23 info3 rfl (by decide) (by omega) u6 x6_3 (rd y128 x58_3) [.int .i64 (rd y128 x58_3)] (fun k_ => some k_ ≠ (.slice (some ad131) y128.length co36 : Value).ownBlock) (fun _ => False) rfl rfl ?aP (fun _ hk => hk.elim) ?aF ?aO ?aB ?aS ?aL ?_; (case aP => exact rfl); (case aB => exact hB_); (case aF => exact (fun k_ hk => Kd.fresh' (Kd.R_lt (rr_ HO_56)) k_ hk)); (case aO => exact (rr_ HO_6)); (case aS => exact (bF_ hB_)); (case aL => have := LMc45.out; omega); intro v135 w48 ho hb hg hat; rw [← Ny134.out] at ho; replace HO_5 := A_ (Kd.R_over' (rr_ HO_5) (Kd.R_typed (rr_ HO_6)) (by decide) hg); replace HO_56 := A_ (Kd.R_after (ok := (fun _ => True)) (rw_ (Kd.R_mono HO_56.out (fun _ hk => ⟨trivial, hk⟩))) hg hat); replace HB := A_ hb; have HO136 := A_ ho; clear HO_6; clear ho hb hg hat))
           (try simp only [← hl5_3])
           go_roundg k3
           case measure => have := HJ2.out; have := HK2.out; have := HK3.out; omega
           case rel => exact ⟨(y133), (y134), (wrap64 (x58_3 + 1)), qc_, H', ⟨by have := HJ2.out; have := HK2.out; have := HK3.out; omega⟩, ⟨by (try simp only [hl5_2]); (try simp only [hl5_3]); (with_reducible repeat (first | apply rA_ | apply rB_ | apply rC_)); exact HO_5.out⟩, ⟨by (try simp only [hl5_2]); (try simp only [hl5_3]); (with_reducible repeat (first | apply rA_ | apply rB_ | apply rC_)); exact HO136.out⟩, ⟨by (try simp only [hl5_2]); (try simp only [hl5_3]); (with_reducible repeat (first | apply rA_ | apply rB_ | apply rC_)); exact Kd.R_mono HO_56.out (fun _ hk => hk.2)⟩, ⟨hB_⟩⟩
         ·rw [if_neg c37] at H
          have c37b0 := oD_ c37
          clear c37
          have H' := A_ H
          clear H
          go_wp2
          (try simp only [← hl5_2, ← hl5_3])
          go_roundg k3
          case measure => have := HJ2.out; have := HK2.out; have := HK3.out; omega
          case rel => exact ⟨(x5_3), (x6_3), (wrap64 (x7_2 + 1)), qc_, H', ⟨by have := HJ2.out; have := HK2.out; have := HK3.out; omega⟩, ⟨by (try simp only [hl5_2]); (try simp only [hl5_3]); (with_reducible repeat (first | apply rA_ | apply rB_ | apply rC_)); exact HO_5.out⟩, ⟨by (try simp only [hl5_2]); (try simp only [hl5_3]); (with_reducible repeat (first | apply rA_ | apply rB_ | apply rC_)); exact Kd.R_mono HO_6.out (fun _ hk => trivial)⟩, ⟨hB_⟩⟩
      ·rw [if_neg c27] at H
       have c27b0 := oD_ c27
       clear c27
       obtain rfl := Option.some.inj H
       obtain ⟨Ao49, co49, eo49⟩ := Kd.R_slice HO_6.out
       subst eo49
       go_wp2
       go_ret
       exact ⟨qb_, hB_⟩
end Go.Proofs.Ytoijcallajegfaa.A
end
section
namespace Go.Proofs.Ytoijcallajegfaa.A
open Go.RowKit Go.Proofs.YtoijcallajegfaaW.PrintWords Go.Proofs.YtoijcallajegfaaW.PrintLast Go.Proofs.YtoijcallajegfaaW.PrintMore
attribute [local go_sem] max2_int min2_int max_two min_two max_three min_three max_four min_four
set_option linter.unusedVariables false
set_option linter.unusedSimpArgs false
def Z31.f (k : Nat) (l0_0 : List Int) (l0_1 : List Int) : Option (Bool) := (Z12.f k l0_0 l0_1).bind fun t138 => (some t138)
theorem Z31.mono : ∀ a0 a1 k, LeO (Z31.f k a0 a1) (Z31.f (k + 1) a0 a1) := by
 intro a0 a1 k
 unfold Z31.f
 repeat' first|exact Z12.mono _ _ _|exact lo_|refine LeO.ite ?_ ?_|refine LeO.bind ?_ (fun _ => ?_)
set_option maxHeartbeats 8000000 in
set_option maxRecDepth 100000 in
theorem Z31.calls (k : Nat) (A0_0 : Option Addr) (c0_0 : Nat) (l0_0 : List Int) (A0_1 : Option Addr) (c0_1 : Nat) (l0_1 : List Int) (r : Bool) (w : World) (hr0_0 : Kd.C (Kd.int .i64) w A0_0 l0_0.length l0_0) (hc0_0 : l0_0.length ≤ c0_0) (hr0_1 : Kd.C (Kd.int .i64) w A0_1 l0_1.length l0_1) (hc0_1 : l0_1.length ≤ c0_1) (h : Z31.f k l0_0 l0_1 = some r) :
  Calls Try.prog 19 #[.agg #[.slice A0_0 l0_0.length c0_0, .slice A0_1 l0_1.length c0_1]] w fun e w' => e = .returned (.bool r) ∧ Below w.heap.size w w' := by
 have hu33 := Try.underlying33
 have HR0_0 := A_ hr0_0
 have HC0_0 := A_ hc0_0
 clear hr0_0 hc0_0
 have HR0_1 := A_ hr0_1
 have HC0_1 := A_ hc0_1
 clear hr0_1 hc0_1
 have HB := A_ (Below.refl w.heap.size w)
 have H := h
 unfold Z31.f at H
 clear h
 obtain ⟨t138, A2, H⟩ := bi_ H
 obtain rfl := Option.some.inj H
 go_enter Try.func19, Try.ntmps19
 go_wp2_with (first | ((with_reducible refine gB_ (N := 1) rfl ?_); refine bx_ 1 #[.slice A0_0 l0_0.length c0_0, .slice A0_1 l0_1.length c0_1] 33 ?_; intro gb137 hg w3 hbox hb; have BK137 := A_ hbox; have GW137 := gw_ w hg; have GE137 := GW137; replace HB := b1_ hb; clear hb hbox hg; obtain ⟨hcz4_0, hcz4_1, hfz4_0, hfz4_1⟩ := c2_ BK137) | ((with_reducible refine gA_ (f := 61) rfl ?_); refine gL_ (some 7) Try.func61 #[.slice A0_0 l0_0.length c0_0, .slice A0_1 l0_1.length c0_1] rfl qa_ ?_; (with_reducible refine (Z12.calls k _ _ l0_0 _ _ l0_1 t138 _ (cb_ HR0_0) HC0_0.out (cb_ HR0_1) HC0_1.out A2.out).mono ?_); rintro e w5 ⟨rfl, hb⟩; refine ⟨_, rfl, ?_⟩; replace BK137 := bb_ BK137 hb; replace HB := b1_ hb; clear hb))
 go_ret
 exact ⟨qb_, hB_⟩
def Z11.f (k : Nat) (l0_0 : List Int) (l0_1 : List Int) : Option (Int) := (Z31.f k l0_0 l0_1).bind fun t140 => (if t140 = true then (some (l0_0.length : Int)) else (some 0))
theorem Z11.mono : ∀ a0 a1 k, LeO (Z11.f k a0 a1) (Z11.f (k + 1) a0 a1) := by
 intro a0 a1 k
 unfold Z11.f
 repeat' first|exact Z31.mono _ _ _|exact lo_|refine LeO.ite ?_ ?_|refine LeO.bind ?_ (fun _ => ?_)
set_option maxHeartbeats 8000000 in
set_option maxRecDepth 100000 in
theorem Z11.calls (k : Nat) (A0_0 : Option Addr) (c0_0 : Nat) (l0_0 : List Int) (A0_1 : Option Addr) (c0_1 : Nat) (l0_1 : List Int) (r : Int) (w : World) (hr0_0 : Kd.C (Kd.int .i64) w A0_0 l0_0.length l0_0) (hc0_0 : l0_0.length ≤ c0_0) (hr0_1 : Kd.C (Kd.int .i64) w A0_1 l0_1.length l0_1) (hc0_1 : l0_1.length ≤ c0_1) (h : Z11.f k l0_0 l0_1 = some r) :
  Calls Try.prog 23 #[.agg #[.slice A0_0 l0_0.length c0_0, .slice A0_1 l0_1.length c0_1]] w fun e w' => e = .returned (.int .i64 r) ∧ Below w.heap.size w w' := by
 have hu33 := Try.underlying33
 have HR0_0 := A_ hr0_0
 have HC0_0 := A_ hc0_0
 clear hr0_0 hc0_0
 have HR0_1 := A_ hr0_1
 have HC0_1 := A_ hc0_1
 clear hr0_1 hc0_1
 have HB := A_ (Below.refl w.heap.size w)
 have H := h
 unfold Z11.f at H
 clear h
 obtain ⟨t140, A2, H⟩ := bi_ H
 by_cases c3 : t140 = true
 ·subst c3
  rw [if_pos rfl] at H
  obtain rfl := Option.some.inj H
  go_enter Try.func23, Try.ntmps23
  go_wp2_with (first | ((with_reducible refine gB_ (N := 1) rfl ?_); refine bx_ 1 #[.slice A0_0 l0_0.length c0_0, .slice A0_1 l0_1.length c0_1] 33 ?_; intro gb139 hg w4 hbox hb; have BK139 := A_ hbox; have GW139 := gw_ w hg; have GE139 := GW139; replace HB := b1_ hb; clear hb hbox hg; obtain ⟨hcz5_0, hcz5_1, hfz5_0, hfz5_1⟩ := c2_ BK139) | ((with_reducible refine gA_ (f := 19) rfl ?_); refine gL_ (some 4) Try.func19 #[.agg #[.slice A0_0 l0_0.length c0_0, .slice A0_1 l0_1.length c0_1]] rfl qa_ ?_; (with_reducible refine (Z31.calls k _ _ l0_0 _ _ l0_1 true _ (cb_ HR0_0) HC0_0.out (cb_ HR0_1) HC0_1.out A2.out).mono ?_); rintro e w6 ⟨rfl, hb⟩; refine ⟨_, rfl, ?_⟩; replace BK139 := bb_ BK139 hb; replace HB := b1_ hb; clear hb; obtain ⟨hcz7_0, hcz7_1, hfz7_0, hfz7_1⟩ := c2_ BK139))
  go_ret
  exact ⟨qb_, hB_⟩
 ·replace c3 := Bool.eq_false_iff.mpr c3
  subst c3
  have H1 : (some 0) = some r := by rw [if_neg (show ¬ (false = true) by decide)] at H; exact H
  clear H
  have H := H1
  clear H1
  obtain rfl := Option.some.inj H
  go_enter Try.func23, Try.ntmps23
  go_wp2_with (first | ((with_reducible refine gB_ (N := 1) rfl ?_); refine bx_ 1 #[.slice A0_0 l0_0.length c0_0, .slice A0_1 l0_1.length c0_1] 33 ?_; intro gb139 hg w8 hbox hb; have BK139 := A_ hbox; have GW139 := gw_ w hg; have GE139 := GW139; replace HB := b1_ hb; clear hb hbox hg; obtain ⟨hcz9_0, hcz9_1, hfz9_0, hfz9_1⟩ := c2_ BK139) | ((with_reducible refine gA_ (f := 19) rfl ?_); refine gL_ (some 4) Try.func19 #[.agg #[.slice A0_0 l0_0.length c0_0, .slice A0_1 l0_1.length c0_1]] rfl qa_ ?_; (with_reducible refine (Z31.calls k _ _ l0_0 _ _ l0_1 false _ (cb_ HR0_0) HC0_0.out (cb_ HR0_1) HC0_1.out A2.out).mono ?_); rintro e w10 ⟨rfl, hb⟩; refine ⟨_, rfl, ?_⟩; replace BK139 := bb_ BK139 hb; replace HB := b1_ hb; clear hb))
  go_ret
  exact ⟨qb_, hB_⟩
end Go.Proofs.Ytoijcallajegfaa.A
end
section
namespace Go.Proofs.Ytoijcallajegfaa.A
open Go.RowKit Go.Proofs.YtoijcallajegfaaW.PrintWords Go.Proofs.YtoijcallajegfaaW.PrintLast Go.Proofs.YtoijcallajegfaaW.PrintMore
attribute [local go_sem] max2_int min2_int max_two min_two max_three min_three max_four min_four
set_option linter.unusedVariables false
set_option linter.unusedSimpArgs false
mutual
def Z37.l0 : Nat → List Int → List Bool → List (List Int) → Int → Int → Option ((List (List Int)))
 | 0, _, _, _, _, _ => none
 | k + 1, x0, x3, x4, x16, x17 => if x17 < x16 then (if 0 ≤ x17 then (if x17 < (x3.length : Int) then (if rdOf false x3 x17 = true then (Z37.l0 k x0 x3 x4 x16 (wrap64 (x17 + 1))) else (Z37.l1 k x0 x3 x4 (([] : List Int)) x17 x16 x17)) else (none)) else (none)) else (some x4)
def Z37.l1 : Nat → List Int → List Bool → List (List Int) → List Int → Int → Int → Int → Option ((List (List Int)))
 | 0, _, _, _, _, _, _, _ => none
 | k + 1, x0, x3, x4, x6, x7, x16, x17 => if 0 ≤ x7 then (if x7 < (x3.length : Int) then (if rdOf false x3 x7 = true then (if x4.length < 5864062014805 then (Z37.l0 k x0 x3 (x4 ++ [x6]) x16 (wrap64 (x17 + 1))) else (none)) else (if x6.length < 17592186044416 then (if x7 < (x0.length : Int) then (Z37.l1 k x0 (x3.set (x7 : Int).toNat true) x4 (x6 ++ [x7]) (rd x0 x7) x16 x17) else (none)) else (none))) else (none)) else (none)
end
def Z37.f (k : Nat) (l0 : List Int) : Option ((List (List Int))) := (Z56.f k l0).bind fun t290 => (if t290 = true then (if 0 ≤ (l0.length : Int) then (if ((l0.length : Int) : Int).toNat ≤ 281474976710656 then (Z37.l0 k l0 (List.replicate ((l0.length : Int) : Int).toNat false) (([] : List (List Int))) (l0.length : Int) 0) else (none)) else (none)) else (some ([] : List (List Int))))
theorem Z37.mono_l : ∀ k, (∀ y0 y1 y2 y3 y4, LeO (Z37.l0 k y0 y1 y2 y3 y4) (Z37.l0 (k + 1) y0 y1 y2 y3 y4)) ∧ (∀ y0 y1 y2 y3 y4 y5 y6, LeO (Z37.l1 k y0 y1 y2 y3 y4 y5 y6) (Z37.l1 (k + 1) y0 y1 y2 y3 y4 y5 y6))
 | 0 => ⟨fun _ _ _ _ _ r h => by simp [Z37.l0] at h, fun _ _ _ _ _ _ _ r h => by simp [Z37.l1] at h⟩
 | k + 1 => by
  obtain ⟨ih0, ih1⟩ := Z37.mono_l k
  refine ⟨?_, ?_⟩
  ·intro y0 y1 y2 y3 y4
   unfold Z37.l0
   repeat' first|exact ih0 _ _ _ _ _|exact ih1 _ _ _ _ _ _ _|exact Z56.mono _ _|exact lo_|refine LeO.ite ?_ ?_|refine LeO.bind ?_ (fun _ => ?_)
  ·intro y0 y1 y2 y3 y4 y5 y6
   unfold Z37.l1
   repeat' first|exact ih0 _ _ _ _ _|exact ih1 _ _ _ _ _ _ _|exact Z56.mono _ _|exact lo_|refine LeO.ite ?_ ?_|refine LeO.bind ?_ (fun _ => ?_)
theorem Z37.mono : ∀ a0 k, LeO (Z37.f k a0) (Z37.f (k + 1) a0) := by
 intro a0 k
 obtain ⟨ih0, ih1⟩ := Z37.mono_l k
 unfold Z37.f
 repeat' first|exact ih0 _ _ _ _ _|exact ih1 _ _ _ _ _ _ _|exact Z56.mono _ _|exact lo_|refine LeO.ite ?_ ?_|refine LeO.bind ?_ (fun _ => ?_)
set_option maxHeartbeats 8000000 in
set_option maxRecDepth 100000 in
theorem Z37.calls (k : Nat) (A0 : Option Addr) (c0 : Nat) (l0 : List Int) (r : List (List Int)) (w : World) (hr0 : Kd.C (Kd.int .i64) w A0 l0.length l0) (hc0 : l0.length ≤ c0) (h : Z37.f k l0 = some r) :
  Calls Try.prog 119 #[.slice A0 l0.length c0] w fun e w' => ∃ v0_ : Value, e = .returned (v0_) ∧ Kd.S (Kd.slice 3 (Kd.int .i64)) 23 w' w.heap.size (fun _ => True) v0_ r ∧ Below w.heap.size w w' := by
 have HR0 := A_ hr0
 have HC0 := A_ hc0
 clear hr0 hc0
 have HB := A_ (Below.refl w.heap.size w)
 have H := h
 unfold Z37.f at H
 clear h
 obtain ⟨t290, A2, H⟩ := bi_ H
 by_cases c3 : t290 = true
 ·subst c3
  rw [if_pos rfl] at H
  have c4 := cp_ H
  replace H := ca_ H
  have c4b0 := eq_true c4
  have c4b1 := oC_ c4
  clear c4
  have c5 := cp_ H
  replace H := ca_ H
  have c5b0 := eq_true c5
  have c5b1 := oC_ c5
  clear c5
  obtain ⟨y291, hy291⟩ : ∃ y_ : List Bool, y_ = (List.replicate ((l0.length : Int) : Int).toNat false) := ⟨_, rfl⟩
  replace H : (Z37.l0 k l0 y291 (([] : List (List Int))) (l0.length : Int) 0) = some r := by first | (rw [hy291]; exact H) | exact H
  have Ny291 := A_ hy291
  clear hy291
  obtain ⟨y294, hy294⟩ : ∃ y_ : List (List Int), y_ = (([] : List (List Int))) := ⟨_, rfl⟩
  replace H : (Z37.l0 k l0 y291 y294 (l0.length : Int) 0) = some r := by first | (rw [hy294]; exact H) | exact H
  have Ny294 := A_ hy294
  clear hy294
  have H' := A_ H
  clear H
  go_enter Try.func119, Try.ntmps119
  go_wp2_with (first | ((with_reducible refine gA_ (f := 109) rfl ?_); refine gL_ (some 9) Try.func109 #[.slice A0 l0.length c0] rfl qa_ ?_; (with_reducible refine (Z56.calls k _ _ l0 true _ (cc_ HR0) HC0.out A2.out).mono ?_); rintro e w6 ⟨rfl, hb⟩; refine ⟨_, rfl, ?_⟩; replace HB := b1_ hb; clear hb) | ((with_reducible refine gB_ (N := 13) rfl ?_); refine Kd.R_make Kd.bool _ 4 rfl (N := 13) rfl 111 _ _ rfl (l0.length : Int) rfl rfl Try.underlying111 (.bool false) 1 info4 rfl (by decide) (by omega) false (ok := fun _ => True) (okp := fun _ => True) rfl (fun _ hk => hk) trivial (oB_ qe_) (Nat.le_trans (Nat.mul_le_mul_right _ (oB_ qe_ : (l0.length : Int).toNat ≤ 281474976710656)) (by omega)) (Below.refl _ _) (nA_ _) ?_; intro v292 w7 ho8 hb hg_ hnew_; clear hg_ hnew_; (first | rw [← Ny291.out] at ho8 | (simp only [Int.reduceToNat] at ho8; rw [← Ny291.out] at ho8)); have HO293 := rl_ w ho8; replace HB := b1_ hb; clear hb ho8) | ((with_reducible refine gB_ (N := 14) rfl ?_); refine Kd.S_lit (Kd.slice 3 (Kd.int .i64)) _ 23 ?hg (N := 14) ?hd (xs := ([] : List (List Int))) (inner := []) (ok := fun _ => True) (okp := fun _ => True) ?hr ?hp (fun _ hk => hk) trivial (Below.refl _ _) (nA_ _) (by simp) ?_; (case hd => rfl); (case hg => rfl); (case hr => first | (go_simp; done) | (go_simp; rfl)); (case hp => exact (Reps.none _ _)); intro v295 w9 ho10 hb hg_ hnew_; clear hg_ hnew_; (first | rw [← Ny294.out] at ho10 | (simp only [Int.reduceToNat] at ho10; rw [← Ny294.out] at ho10)); replace HO293 := rb_ HO293 hb; have HO296 := A_ (Kd.S_lower ho10 (bF_ hB_)); replace HB := b1_ hb; clear hb ho10))
  go_loopg [4, 17] k (fun kq v4 v17 w' => ∃ (x3_1 : List Bool) (x4_1 : List (List Int)) (x17_1 : Int), v17 = .int .i64 x17_1 ∧ Aside0 (Z37.l0 kq l0 x3_1 x4_1 (l0.length : Int) x17_1 = some r) ∧ Aside0 (kq ≤ k) ∧ Aside0 (Kd.R Kd.bool 4 w' w.heap.size (fun _ => True) v292 x3_1) ∧ Aside0 (Kd.S (Kd.slice 3 (Kd.int .i64)) 23 w' w.heap.size (fun _ => True) v4 x4_1) ∧ Aside0 (Below w.heap.size w w'))
  case atStart => exact ⟨(y291), (y294), (0), qc_, H', ⟨nA_ _⟩, ⟨(rr_ HO293)⟩, ⟨(ss_ HO296)⟩, ⟨hB_⟩⟩
  case round =>
   clear H'
   obtain ⟨x3_1, x4_1, x17_1, rfl, HA, HK1, HO_3, HO_4, HB⟩ := hrel
   cases gk with
   | zero => exact absurd HA.out (by simp [Z37.l0])
   | succ k1 =>
    have H := HA.out
    clear HA
    simp only [Z37.l0] at H
    by_cases c11 : x17_1 < (l0.length : Int)
    ·rw [if_pos c11] at H
     have c11b0 := oC_ c11
     clear c11
     have c12 := cp_ H
     replace H := ca_ H
     have c12b0 := oC_ c12
     clear c12
     have c13 := cp_ H
     replace H := ca_ H
     have c13b0 := oC_ c13
     clear c13
     obtain ⟨bq14, hbq14⟩ : ∃ b_ : Bool, b_ = (rdOf false x3_1 x17_1) := ⟨_, rfl⟩
     replace H : (if bq14 = true then (Z37.l0 k1 l0 x3_1 x4_1 (l0.length : Int) (wrap64 (x17_1 + 1))) else (Z37.l1 k1 l0 x3_1 x4_1 (([] : List Int)) x17_1 (l0.length : Int) x17_1)) = some r := by rw [← hbq14] at H; exact H
     have Nbq14 := A_ hbq14
     clear hbq14
     by_cases c15 : bq14 = true
     ·subst c15
      rw [if_pos rfl] at H
      have H' := A_ H
      clear H
      obtain ⟨Ao16, co16, eo16⟩ := Kd.R_slice HO_3.out
      subst eo16
      have p297 : 0 ≤ (x17_1 : Int) := oB_ qe_
      have q297 : x17_1 < (x3_1.length : Int) := oB_ qe_
      obtain ⟨ad297, e297, hx297_0⟩ := Kd.at_bool (Kd.R_reads' HO_3.out).2.2 x17_1 p297 q297
      (try rw [← Nbq14.out] at hx297_0)
      cases e297
      replace p297 := eq_true p297
      replace q297 := eq_true q297
      go_wp2
      go_roundg k1
      case measure => have := HK1.out; omega
      case rel => exact ⟨(x3_1), (x4_1), (wrap64 (x17_1 + 1)), qc_, H', ⟨by have := HK1.out; omega⟩, ⟨(rr_ HO_3)⟩, ⟨(ss_ HO_4)⟩, ⟨hB_⟩⟩
     ·replace c15 := Bool.eq_false_iff.mpr c15
      subst c15
      have H1 : (Z37.l1 k1 l0 x3_1 x4_1 (([] : List Int)) x17_1 (l0.length : Int) x17_1) = some r := by rw [if_neg (show ¬ (false = true) by decide)] at H; exact H
      clear H
      have H := H1
      clear H1
      obtain ⟨y298, hy298⟩ : ∃ y_ : List Int, y_ = (([] : List Int)) := ⟨_, rfl⟩
      replace H : (Z37.l1 k1 l0 x3_1 x4_1 y298 x17_1 (l0.length : Int) x17_1) = some r := by first | (rw [hy298]; exact H) | exact H
      have Ny298 := A_ hy298
      clear hy298
      have H' := A_ H
      clear H
      obtain ⟨Ao17, co17, eo17⟩ := Kd.R_slice HO_3.out
      subst eo17
      have p297 : 0 ≤ (x17_1 : Int) := oB_ qe_
      have q297 : x17_1 < (x3_1.length : Int) := oB_ qe_
      obtain ⟨ad297, e297, hx297_0⟩ := Kd.at_bool (Kd.R_reads' HO_3.out).2.2 x17_1 p297 q297
      (try rw [← Nbq14.out] at hx297_0)
      cases e297
      obtain ⟨g297, rfl⟩ : ∃ g_, ad297 = (⟨g_, 0, none⟩ : Addr) := Kd.R_head HO_3.out
      (try simp only [add_plain] at hx297_0)
      replace p297 := eq_true p297
      replace q297 := eq_true q297
      go_wp2_with (first | ((with_reducible refine gB_ (N := 24) rfl ?_); refine Kd.R_lit (Kd.int .i64) _ 3 ?hg (N := 24) ?hd (xs := ([] : List Int)) (inner := []) (ok := fun _ => True) (okp := fun _ => True) ?hr ?hp (fun _ hk => hk) trivial (Below.refl _ _) (nA_ _) (by simp) ?_; (case hd => rfl); (case hg => rfl); (case hr => first | (go_simp; done) | (go_simp; rfl)); (case hp => exact (Reps.none _ _)); intro v299 w18 ho19 hb hg_ hnew_; clear hg_ hnew_; (first | rw [← Ny298.out] at ho19 | (simp only [Int.reduceToNat] at ho19; rw [← Ny298.out] at ho19)); replace HO_3 := rb_ HO_3 hb; replace HO_4 := A_ (Kd.S_elder' (ss_ HO_4) (Kd.R_base ho19) hb); have HO300 := rl_ w ho19; replace HB := b1_ hb; clear hb ho19))
      go_loopg [6, 7] k1 (fun kq v6 v7 w' => ∃ (x3_2 : List Bool) (x6_2 : List Int) (x7_2 : Int), v7 = .int .i64 x7_2 ∧ Aside0 (Z37.l1 kq l0 x3_2 x4_1 x6_2 x7_2 (l0.length : Int) x17_1 = some r) ∧ Aside0 (kq ≤ k1) ∧ Aside0 (Kd.R Kd.bool 4 w' w.heap.size (fun _ => True) (.slice (some (⟨g297, 0, none⟩ : Addr)) x3_1.length co17) x3_2) ∧ Aside0 (Kd.S (Kd.slice 3 (Kd.int .i64)) 23 w' w.heap.size (fun k_ => some k_ ≠ (v6 : Value).ownBlock) u4 x4_1) ∧ Aside0 (Kd.R (Kd.int .i64) 3 w' w.heap.size (fun _ => True) v6 x6_2) ∧ Aside0 (Below w.heap.size w w'))
      case atStart => exact ⟨(x3_1), (y298), (x17_1), qc_, H', ⟨nA_ _⟩, ⟨(rr_ HO_3)⟩, ⟨(sw_ (Kd.S_mono HO_4.out (fun _ hk => hk.2)))⟩, ⟨(rr_ HO300)⟩, ⟨hB_⟩⟩
      case round =>
       clear H'
       obtain ⟨x3_2, x6_2, x7_2, rfl, HA, HK2, HO_3, HO_4, HO_6, HB⟩ := hrel
       have hl3_2 := (Kd.R_reads' HO_3.out).1
       rw [hl3_2] at HO_3
       (try simp only [hl3_2])
       (try simp only [hl3_2] at HO_4)
       (try simp only [hl3_2] at HO_6)
       cases gk with
       | zero => exact absurd HA.out (by simp [Z37.l1])
       | succ k2 =>
        have H := HA.out
        clear HA
        simp only [Z37.l1] at H
        have c20 := cp_ H
        replace H := ca_ H
        have c20b0 := oC_ c20
        clear c20
        have c21 := cp_ H
        replace H := ca_ H
        have c21b0 := oC_ c21
        clear c21
        obtain ⟨bq22, hbq22⟩ : ∃ b_ : Bool, b_ = (rdOf false x3_2 x7_2) := ⟨_, rfl⟩
        replace H : (if bq22 = true then (if x4_1.length < 5864062014805 then (Z37.l0 k2 l0 x3_2 (x4_1 ++ [x6_2]) (l0.length : Int) (wrap64 (x17_1 + 1))) else (none)) else (if x6_2.length < 17592186044416 then (if x7_2 < (l0.length : Int) then (Z37.l1 k2 l0 (x3_2.set (x7_2 : Int).toNat true) x4_1 (x6_2 ++ [x7_2]) (rd l0 x7_2) (l0.length : Int) x17_1) else (none)) else (none))) = some r := by rw [← hbq22] at H; exact H
        have Nbq22 := A_ hbq22
        clear hbq22
        by_cases c23 : bq22 = true
        ·subst c23
         rw [if_pos rfl] at H
         have c24 := cp_ H
         replace H := ca_ H
         have LMc24 := A_ c24
         clear c24
         obtain ⟨y302, hy302⟩ : ∃ y_ : List (List Int), y_ = (x4_1 ++ [x6_2]) := ⟨_, rfl⟩
         replace H : (Z37.l0 k2 l0 x3_2 y302 (l0.length : Int) (wrap64 (x17_1 + 1))) = some r := by first | (rw [hy302]; exact H) | exact H
         have Ny302 := A_ hy302
         clear hy302
         have H' := A_ H
         clear H
         have p301 : 0 ≤ (x7_2 : Int) := oB_ qe_
         have q301 : x7_2 < (x3_2.length : Int) := oB_ qe_
         obtain ⟨ad301, e301, hx301_0⟩ := Kd.at_bool (Kd.R_reads' HO_3.out).2.2 x7_2 p301 q301
         (try rw [← Nbq14.out] at hx301_0)
         (try rw [← Nbq22.out] at hx301_0)
         obtain rfl : (⟨g297, 0, none⟩ : Addr) = ad301 := (by injection e301)
         (try simp only [add_plain] at hx301_0)
         replace p301 := eq_true p301
         replace q301 := eq_true q301
         obtain ⟨Ao26, co26, eo26⟩ := Kd.R_slice HO_6.out
         subst eo26
         go_wp2_with (first | ((with_reducible refine gate_builtin (b := .append) (xs := #[.tmp 42, .tmp 44]) rfl ?_); at_builtin; refine Kd.S_append (Kd.slice 3 (Kd.int .i64)) (w0 := w) w.heap.size rfl (.tmp 42) (.tmp 44) 28 23 (.slice none 0 0) 24 rfl Try.underlying28 info23 rfl (by decide) (by omega) u4 x4_1 x6_2 [.slice Ao26 x6_2.length co26] (fun _ => True) (fun k_ => some k_ = (.slice Ao26 x6_2.length co26 : Value).ownBlock) rfl rfl ?aP (fun k_ hk_ => ((Kd.R_mono (ok' := fun k_ => ((fun _ => True)) k_ ∧ some k_ ≠ (u4 : Value).ownBlock) (Kd.R_apart' (HO_6.out) (Kd.S_typed HO_4.out) (by decide)) (fun k_ hk => ⟨trivial, hk.2⟩))).1 k_ hk_.symm) ?aF ?aO ?aB ?aS ?aL ?_; (case aP => exact Kd.M_row (Kd.R_mono (Kd.R_tight rfl (Kd.R_mono (ok' := fun k_ => ((fun _ => True)) k_ ∧ some k_ ≠ (u4 : Value).ownBlock) (Kd.R_apart' (HO_6.out) (Kd.S_typed HO_4.out) (by decide)) (fun k_ hk => ⟨trivial, hk.2⟩))) (fun _ h_ => h_))); (case aB => exact hB_); (case aF => exact (fun _ _ => trivial)); (case aO => exact (sw_ (Kd.S_mono HO_4.out (fun k_ hk => ⟨trivial, fun e_ => hk e_⟩)))); (case aS => exact (bF_ hB_)); (case aL => have := LMc24.out; omega); intro v303 w25 ho hb hg hat; rw [← Ny302.out] at ho; replace HO_3 := A_ (Kd.R_over' (rr_ HO_3) (Kd.S_typed (ss_ HO_4)) (by decide) hg); replace HB := A_ hb; have HO304 := A_ ho; clear HO_4 HO_6; clear ho hb hg hat))
         (try simp only [← hl3_2])
         go_roundg k2
         case measure => have := HK1.out; have := HK2.out; omega
         case rel => exact ⟨(x3_2), (y302), (wrap64 (x17_1 + 1)), qc_, H', ⟨by have := HK1.out; have := HK2.out; omega⟩, ⟨by (try simp only [hl3_2]); (with_reducible repeat (first | apply rA_ | apply rB_ | apply rC_)); exact HO_3.out⟩, ⟨by (try simp only [hl3_2]); (with_reducible repeat (first | apply Kd.S_alloc | apply Kd.S_drewN | apply Kd.S_drew)); exact HO304.out⟩, ⟨hB_⟩⟩
        ·replace c23 := Bool.eq_false_iff.mpr c23
         subst c23
         have H1 : (if x6_2.length < 17592186044416 then (if x7_2 < (l0.length : Int) then (Z37.l1 k2 l0 (x3_2.set (x7_2 : Int).toNat true) x4_1 (x6_2 ++ [x7_2]) (rd l0 x7_2) (l0.length : Int) x17_1) else (none)) else (none)) = some r := by rw [if_neg (show ¬ (false = true) by decide)] at H; exact H
         clear H
         have H := H1
         clear H1
         obtain ⟨y305, hy305⟩ : ∃ y_ : List Bool, y_ = (x3_2.set (x7_2 : Int).toNat true) := ⟨_, rfl⟩
         replace H : (if x6_2.length < 17592186044416 then (if x7_2 < (l0.length : Int) then (Z37.l1 k2 l0 y305 x4_1 (x6_2 ++ [x7_2]) (rd l0 x7_2) (l0.length : Int) x17_1) else (none)) else (none)) = some r := by first | (rw [hy305]; exact H) | exact H
         have Ny305 := A_ hy305
         clear hy305
         have c28 := cp_ H
         replace H := ca_ H
         have LMc28 := A_ c28
         clear c28
         obtain ⟨y306, hy306⟩ : ∃ y_ : List Int, y_ = (x6_2 ++ [x7_2]) := ⟨_, rfl⟩
         replace H : (if x7_2 < (l0.length : Int) then (Z37.l1 k2 l0 y305 x4_1 y306 (rd l0 x7_2) (l0.length : Int) x17_1) else (none)) = some r := by first | (rw [hy306]; exact H) | exact H
         have Ny306 := A_ hy306
         clear hy306
         have c29 := cp_ H
         replace H := ca_ H
         have c29b0 := oC_ c29
         clear c29
         have H' := A_ H
         clear H
         have p301 : 0 ≤ (x7_2 : Int) := oB_ qe_
         have q301 : x7_2 < (x3_2.length : Int) := oB_ qe_
         obtain ⟨ad301, e301, hx301_0⟩ := Kd.at_bool (Kd.R_reads' HO_3.out).2.2 x7_2 p301 q301
         (try rw [← Nbq14.out] at hx301_0)
         (try rw [← Nbq22.out] at hx301_0)
         obtain rfl : (⟨g297, 0, none⟩ : Addr) = ad301 := (by injection e301)
         (try simp only [add_plain] at hx301_0)
         replace p301 := eq_true p301
         replace q301 := eq_true q301
         have p27 : 0 ≤ (x7_2 : Int) := oB_ qe_
         have q27 : (x7_2 : Int) < ((x3_2.length : Int) : Int) := oB_ qe_
         obtain ⟨go27, co27, eo27, gb27, gl27, cl27, HG27⟩ := Kd.R_form HO_3.out (by omega)
         (first | cases eo27 | (injection eo27 with ea_ en_ ec_; (first | subst ea_ | (injection ea_ with ea_; subst ea_)); subst ec_; clear en_))
         have GB27 := A_ gb27
         have GG27 := A_ HG27
         clear gb27 gl27 HG27
         (first | simp only [add_plain] at hx297_0 | skip)
         (first | simp only [add_plain] at hx301_0 | skip)
         obtain ⟨hx27_0, hf27_0⟩ := Kd.R_celln false HO_3.out (x7_2 : Int) p27 q27
         replace p27 := eq_true p27
         replace q27 := eq_true q27
         have HP30 := Kd.R_putg HO_3.out (x7_2 : Int) true
         go_wp2_with (first | ((with_reducible refine gate_store (t := 4) (p := 37) rfl ?_); refine store_event (t := 4) (p := 37) (v := ?vo_w31) (w1 := (wr.setCell ⟨g297, (x7_2 : Int).toNat, none⟩ (.bool true))) ?hg ?ho ?hn ?hr ?_; (case ho => rfl); (case hg => rfl); (case hn => rfl); (case hr => first | (go_simp; done) | (go_simp; rfl)); intro w31 hw; have hg : wr.grownBy w31 (some g297) := (by rw [hw]; exact HP30.2); have hp_ : Kd.R Kd.bool 4 w31 w.heap.size (fun _ => True) (.slice (some ⟨g297, 0, none⟩) x3_2.length co17) y305 := (by rw [hw, Ny305.out]; exact HP30.1); clear HP30; replace HO_4 := A_ (Kd.S_over' (v := (.slice (some ⟨g297, 0, none⟩) x3_2.length co17)) (ss_ HO_4) (Kd.R_typed HO_3.out) (by decide) hg); replace HO_6 := A_ (Kd.R_over' (v := (.slice (some ⟨g297, 0, none⟩) x3_2.length co17)) (rr_ HO_6) (Kd.R_typed HO_3.out) (by decide) hg); replace HO_3 := A_ (hp_); replace HB := A_ ((by rw [hw]; exact bD_ (HB.out) GB27.out : Below w.heap.size w w31)); clear hg hw hp_) | ((with_reducible refine gate_builtin (b := .append) (xs := #[.tmp 38, .tmp 40]) rfl ?_); at_builtin; refine Kd.R_append (Kd.int .i64) (w0 := w) w.heap.size rfl (.tmp 38) (.tmp 40) 23 3 (.int .i64 0) 8 rfl Try.underlying23 info3 rfl (by decide) (by omega) u6 x6_2 x7_2 [.int .i64 x7_2] (fun _ => True) (fun _ => False) rfl rfl ?aP (fun _ hk => hk.elim) ?aF ?aO ?aB ?aS ?aL ?_; (case aP => exact rfl); (case aB => exact hB_); (case aF => exact (fun _ _ => trivial)); (case aO => exact (rr_ HO_6)); (case aS => exact (bF_ hB_)); (case aL => have := LMc28.out; omega); intro v307 w32 ho hb hg hat; rw [← Ny306.out] at ho; replace HO_3 := A_ (Kd.R_over' (rr_ HO_3) (Kd.R_typed (rr_ HO_6)) (by decide) hg); replace HO_4 := A_ (Kd.S_after (ok := (fun _ => True)) (sw_ (Kd.S_mono HO_4.out (fun _ hk => ⟨trivial, hk⟩))) hg hat); replace HB := A_ hb; have HO308 := A_ ho; clear HO_6; clear ho hb hg hat; have p309 : 0 ≤ (x7_2 : Int) := oB_ qe_; have q309 : x7_2 < (l0.length : Int) := oB_ qe_; obtain ⟨ad309, e309, hx309_0⟩ := Kd.at_int HR0.out x7_2 p309 q309; cases e309; replace hx309_0 := (HB.out.cell (World.block_lt_of_cell? w _ hx309_0)).trans hx309_0; replace p309 := eq_true p309; replace q309 := eq_true q309))
         (try simp only [← hl3_2])
         go_roundg k2
         case measure => have := HK1.out; have := HK2.out; omega
         case rel => exact ⟨(y305), (y306), (rd l0 x7_2), qc_, H', ⟨by have := HK1.out; have := HK2.out; omega⟩, ⟨by (try simp only [hl3_2]); (with_reducible repeat (first | apply rA_ | apply rB_ | apply rC_)); exact HO_3.out⟩, ⟨by (try simp only [hl3_2]); (with_reducible repeat (first | apply Kd.S_alloc | apply Kd.S_drewN | apply Kd.S_drew)); exact Kd.S_mono HO_4.out (fun _ hk => hk.2)⟩, ⟨by (try simp only [hl3_2]); (with_reducible repeat (first | apply rA_ | apply rB_ | apply rC_)); exact HO308.out⟩, ⟨hB_⟩⟩
    ·rw [if_neg c11] at H
     have c11b0 := oD_ c11
     clear c11
     obtain rfl := Option.some.inj H
     go_wp2
     go_ret
     exact ⟨_, qb_, (ss_ HO_4), hB_⟩
 ·replace c3 := Bool.eq_false_iff.mpr c3
  subst c3
  have H1 : (some ([] : List (List Int))) = some r := by rw [if_neg (show ¬ (false = true) by decide)] at H; exact H
  clear H
  have H := H1
  clear H1
  obtain rfl := Option.some.inj H
  go_enter Try.func119, Try.ntmps119
  go_wp2_with (first | ((with_reducible refine gA_ (f := 109) rfl ?_); refine gL_ (some 9) Try.func109 #[.slice A0 l0.length c0] rfl qa_ ?_; (with_reducible refine (Z56.calls k _ _ l0 false _ (cc_ HR0) HC0.out A2.out).mono ?_); rintro e w33 ⟨rfl, hb⟩; refine ⟨_, rfl, ?_⟩; replace HB := b1_ hb; clear hb))
  go_ret
  exact ⟨_, qb_, by first | exact Kd.S_nil _ _ _ _ _ | exact Kd.N_nil _ _ _ _ _ | exact Kd.V_nil _ _ _ _ _ | exact Kd.Q_nil _ _ _ _ _ | exact Kd.R_nil _ _ _ _ _, hB_⟩
end Go.Proofs.Ytoijcallajegfaa.A
end
section
namespace Go.Proofs.Ytoijcallajegfaa.A
open Go.RowKit Go.Proofs.YtoijcallajegfaaW.PrintWords Go.Proofs.YtoijcallajegfaaW.PrintLast Go.Proofs.YtoijcallajegfaaW.PrintMore
attribute [local go_sem] max2_int min2_int max_two min_two max_three min_three max_four min_four
set_option linter.unusedVariables false
set_option linter.unusedSimpArgs false
def Z17.l0 : Nat → List Int → List Int → Int → Int → Option (List Int)
 | 0, _, _, _, _ => none
 | k + 1, x3, x12, x13, x14 => if x14 < x13 then (if 0 ≤ x14 then (if x14 < (x12.length : Int) then (if 0 ≤ (rd x12 x14) then (if (rd x12 x14) < (x3.length : Int) then (Z17.l0 k (x3.set ((rd x12 x14) : Int).toNat x14) x12 x13 (wrap64 (x14 + 1))) else (none)) else (none)) else (none)) else (none)) else (some x3)
def Z17.f (k : Nat) (l0 : List Int) : Option (List Int) := (Z56.f k l0).bind fun t310 => (if t310 = true then (if 0 ≤ (l0.length : Int) then (if ((l0.length : Int) : Int).toNat ≤ 35184372088832 then (Z17.l0 k (List.replicate ((l0.length : Int) : Int).toNat 0) l0 (l0.length : Int) 0) else (none)) else (none)) else (some ([] : List Int)))
theorem Z17.mono_l : ∀ k, (∀ y0 y1 y2 y3, LeO (Z17.l0 k y0 y1 y2 y3) (Z17.l0 (k + 1) y0 y1 y2 y3))
 | 0 => fun _ _ _ _ r h => by simp [Z17.l0] at h
 | k + 1 => by
  have ih0 := Z17.mono_l k
  ·intro y0 y1 y2 y3
   unfold Z17.l0
   repeat' first|exact ih0 _ _ _ _|exact Z56.mono _ _|exact lo_|refine LeO.ite ?_ ?_|refine LeO.bind ?_ (fun _ => ?_)
theorem Z17.mono : ∀ a0 k, LeO (Z17.f k a0) (Z17.f (k + 1) a0) := by
 intro a0 k
 have ih0 := Z17.mono_l k
 unfold Z17.f
 repeat' first|exact ih0 _ _ _ _|exact Z56.mono _ _|exact lo_|refine LeO.ite ?_ ?_|refine LeO.bind ?_ (fun _ => ?_)
set_option maxHeartbeats 8000000 in
set_option maxRecDepth 100000 in
theorem Z17.calls (k : Nat) (A0 : Option Addr) (c0 : Nat) (l0 : List Int) (r : List Int) (w : World) (hr0 : Kd.C (Kd.int .i64) w A0 l0.length l0) (hc0 : l0.length ≤ c0) (h : Z17.f k l0 = some r) :
  Calls Try.prog 122 #[.slice A0 l0.length c0] w fun e w' => ∃ v0_ : Value, e = .returned (v0_) ∧ Kd.R (Kd.int .i64) 3 w' w.heap.size (fun _ => True) v0_ r ∧ Below w.heap.size w w' := by
 have HR0 := A_ hr0
 have HC0 := A_ hc0
 clear hr0 hc0
 have HB := A_ (Below.refl w.heap.size w)
 have H := h
 unfold Z17.f at H
 clear h
 obtain ⟨t310, A2, H⟩ := bi_ H
 by_cases c3 : t310 = true
 ·subst c3
  rw [if_pos rfl] at H
  have c4 := cp_ H
  replace H := ca_ H
  have c4b0 := eq_true c4
  have c4b1 := oC_ c4
  clear c4
  have c5 := cp_ H
  replace H := ca_ H
  have c5b0 := eq_true c5
  have c5b1 := oC_ c5
  clear c5
  obtain ⟨y311, hy311⟩ : ∃ y_ : List Int, y_ = (List.replicate ((l0.length : Int) : Int).toNat 0) := ⟨_, rfl⟩
  replace H : (Z17.l0 k y311 l0 (l0.length : Int) 0) = some r := by first | (rw [hy311]; exact H) | exact H
  have Ny311 := A_ hy311
  clear hy311
  have H' := A_ H
  clear H
  go_enter Try.func122, Try.ntmps122
  go_wp2_with (first | ((with_reducible refine gA_ (f := 109) rfl ?_); refine gL_ (some 7) Try.func109 #[.slice A0 l0.length c0] rfl qa_ ?_; (with_reducible refine (Z56.calls k _ _ l0 true _ (cc_ HR0) HC0.out A2.out).mono ?_); rintro e w6 ⟨rfl, hb⟩; refine ⟨_, rfl, ?_⟩; replace HB := b1_ hb; clear hb) | ((with_reducible refine gB_ (N := 11) rfl ?_); refine Kd.R_make (Kd.int .i64) _ 3 rfl (N := 11) rfl 23 _ _ rfl (l0.length : Int) rfl rfl Try.underlying23 (.int .i64 0) 8 info3 rfl (by decide) (by omega) 0 (ok := fun _ => True) (okp := fun _ => True) rfl (fun _ hk => hk) trivial (oB_ qe_) (Nat.le_trans (Nat.mul_le_mul_right _ (oB_ qe_ : (l0.length : Int).toNat ≤ 35184372088832)) (by omega)) (Below.refl _ _) (nA_ _) ?_; intro v312 w7 ho8 hb hg_ hnew_; clear hg_ hnew_; (first | rw [← Ny311.out] at ho8 | (simp only [Int.reduceToNat] at ho8; rw [← Ny311.out] at ho8)); have HO313 := rl_ w ho8; replace HB := b1_ hb; clear hb ho8))
  go_loopg [14] k (fun kq v14 w' => ∃ (x3_1 : List Int) (x14_1 : Int), v14 = .int .i64 x14_1 ∧ Aside0 (Z17.l0 kq x3_1 l0 (l0.length : Int) x14_1 = some r) ∧ Aside0 (kq ≤ k) ∧ Aside0 (Kd.R (Kd.int .i64) 3 w' w.heap.size (fun _ => True) v312 x3_1) ∧ Aside0 (Below w.heap.size w w'))
  case atStart => exact ⟨(y311), (0), qc_, H', ⟨nA_ _⟩, ⟨(rr_ HO313)⟩, ⟨hB_⟩⟩
  case round =>
   clear H'
   obtain ⟨x3_1, x14_1, rfl, HA, HK1, HO_3, HB⟩ := hrel
   cases gk with
   | zero => exact absurd HA.out (by simp [Z17.l0])
   | succ k1 =>
    have H := HA.out
    clear HA
    simp only [Z17.l0] at H
    by_cases c9 : x14_1 < (l0.length : Int)
    ·rw [if_pos c9] at H
     have c9b0 := oC_ c9
     clear c9
     have c10 := cp_ H
     replace H := ca_ H
     have c10b0 := oC_ c10
     clear c10
     have c11 := cp_ H
     replace H := ca_ H
     have c11b0 := oC_ c11
     clear c11
     have c12 := cp_ H
     replace H := ca_ H
     have c12b0 := oC_ c12
     clear c12
     have c13 := cp_ H
     replace H := ca_ H
     have c13b0 := oC_ c13
     clear c13
     obtain ⟨y315, hy315⟩ : ∃ y_ : List Int, y_ = (x3_1.set ((rd l0 x14_1) : Int).toNat x14_1) := ⟨_, rfl⟩
     replace H : (Z17.l0 k1 y315 l0 (l0.length : Int) (wrap64 (x14_1 + 1))) = some r := by first | (rw [hy315]; exact H) | exact H
     have Ny315 := A_ hy315
     clear hy315
     have H' := A_ H
     clear H
     have p314 : 0 ≤ (x14_1 : Int) := oB_ qe_
     have q314 : x14_1 < (l0.length : Int) := oB_ qe_
     obtain ⟨ad314, e314, hx314_0⟩ := Kd.at_int HR0.out x14_1 p314 q314
     cases e314
     replace hx314_0 := (HB.out.cell (World.block_lt_of_cell? w _ hx314_0)).trans hx314_0
     replace p314 := eq_true p314
     replace q314 := eq_true q314
     have p14 : 0 ≤ ((rd l0 x14_1) : Int) := oB_ qe_
     have q14 : ((rd l0 x14_1) : Int) < ((x3_1.length : Int) : Int) := oB_ qe_
     obtain ⟨go14, co14, eo14, gb14, gl14, cl14, HG14⟩ := Kd.R_form HO_3.out (by omega)
     (first | cases eo14 | (injection eo14 with ea_ en_ ec_; (first | subst ea_ | (injection ea_ with ea_; subst ea_)); subst ec_; clear en_))
     have GB14 := A_ gb14
     have GG14 := A_ HG14
     clear gb14 gl14 HG14
     obtain ⟨hx14_0, hf14_0⟩ := Kd.R_celln 0 HO_3.out ((rd l0 x14_1) : Int) p14 q14
     replace p14 := eq_true p14
     replace q14 := eq_true q14
     have HP15 := Kd.R_putg HO_3.out ((rd l0 x14_1) : Int) x14_1
     go_wp2_with (first | ((with_reducible refine gate_store (t := 3) (p := 22) rfl ?_); refine store_event (t := 3) (p := 22) (v := ?vo_w16) (w1 := (wr.setCell ⟨go14, ((rd l0 x14_1) : Int).toNat, none⟩ (.int .i64 x14_1))) ?hg ?ho ?hn ?hr ?_; (case ho => rfl); (case hg => rfl); (case hn => rfl); (case hr => first | (go_simp; done) | (go_simp; rfl)); intro w16 hw; have hg : wr.grownBy w16 (some go14) := (by rw [hw]; exact HP15.2); have hp_ : Kd.R (Kd.int .i64) 3 w16 w.heap.size (fun _ => True) (.slice (some ⟨go14, 0, none⟩) x3_1.length co14) y315 := (by rw [hw, Ny315.out]; exact HP15.1); clear HP15; replace HO_3 := A_ (hp_); replace HB := A_ ((by rw [hw]; exact bD_ (HB.out) GB14.out : Below w.heap.size w w16)); clear hg hw hp_))
     go_roundg k1
     case measure => have := HK1.out; omega
     case rel => exact ⟨(y315), (wrap64 (x14_1 + 1)), qc_, H', ⟨by have := HK1.out; omega⟩, ⟨(rr_ HO_3)⟩, ⟨hB_⟩⟩
    ·rw [if_neg c9] at H
     have c9b0 := oD_ c9
     clear c9
     obtain rfl := Option.some.inj H
     go_wp2
     go_ret
     exact ⟨_, qb_, (rr_ HO_3), hB_⟩
 ·replace c3 := Bool.eq_false_iff.mpr c3
  subst c3
  have H1 : (some ([] : List Int)) = some r := by rw [if_neg (show ¬ (false = true) by decide)] at H; exact H
  clear H
  have H := H1
  clear H1
  obtain rfl := Option.some.inj H
  go_enter Try.func122, Try.ntmps122
  go_wp2_with (first | ((with_reducible refine gA_ (f := 109) rfl ?_); refine gL_ (some 7) Try.func109 #[.slice A0 l0.length c0] rfl qa_ ?_; (with_reducible refine (Z56.calls k _ _ l0 false _ (cc_ HR0) HC0.out A2.out).mono ?_); rintro e w17 ⟨rfl, hb⟩; refine ⟨_, rfl, ?_⟩; replace HB := b1_ hb; clear hb))
  go_ret
  exact ⟨_, qb_, by first | exact Kd.R_nil _ _ _ _ _ | exact Kd.N_nil _ _ _ _ _ | exact Kd.V_nil _ _ _ _ _ | exact Kd.Q_nil _ _ _ _ _ | exact Kd.S_nil _ _ _ _ _, hB_⟩
end Go.Proofs.Ytoijcallajegfaa.A
end
section
namespace Go.Proofs.Ytoijcallajegfaa.A
open Go.RowKit Go.Proofs.YtoijcallajegfaaW.PrintWords Go.Proofs.YtoijcallajegfaaW.PrintLast Go.Proofs.YtoijcallajegfaaW.PrintMore
attribute [local go_sem] max2_int min2_int max_two min_two max_three min_three max_four min_four
set_option linter.unusedVariables false
set_option linter.unusedSimpArgs false
mutual
def Z39.j0 : Nat → List Int → List Int → Bool → Option (List Int)
 | 0, _, _, _ => none
 | k + 1, x0, x1, x22 => if x22 = true then (some ([] : List Int)) else (if 0 ≤ (x0.length : Int) then (if ((x0.length : Int) : Int).toNat ≤ 35184372088832 then (Z39.l0 k x1 (List.replicate ((x0.length : Int) : Int).toNat 0) x0 (x0.length : Int) 0) else (none)) else (none))
def Z39.l0 : Nat → List Int → List Int → List Int → Int → Int → Option (List Int)
 | 0, _, _, _, _, _ => none
 | k + 1, x1, x5, x26, x27, x28 => if x28 < x27 then (if 0 ≤ x28 then (if x28 < (x26.length : Int) then (if 0 ≤ (rd x26 x28) then (if (rd x26 x28) < (x1.length : Int) then (if x28 < (x5.length : Int) then (Z39.l0 k x1 (x5.set (x28 : Int).toNat (rd x1 (rd x26 x28))) x26 x27 (wrap64 (x28 + 1))) else (none)) else (none)) else (none)) else (none)) else (none)) else (some x5)
end
def Z39.f (k : Nat) (l0 : List Int) (l1 : List Int) : Option (List Int) := (Z56.f k l0).bind fun t316 => (if t316 = true then ((Z56.f k l1).bind fun t317 => (if t317 = true then (Z39.j0 k l0 l1 ((l0.length : Int) != (l1.length : Int))) else (Z39.j0 k l0 l1 true))) else (Z39.j0 k l0 l1 true))
theorem Z39.mono_l : ∀ k, (∀ y0 y1 y2, LeO (Z39.j0 k y0 y1 y2) (Z39.j0 (k + 1) y0 y1 y2)) ∧ (∀ y0 y1 y2 y3 y4, LeO (Z39.l0 k y0 y1 y2 y3 y4) (Z39.l0 (k + 1) y0 y1 y2 y3 y4))
 | 0 => ⟨fun _ _ _ r h => by simp [Z39.j0] at h, fun _ _ _ _ _ r h => by simp [Z39.l0] at h⟩
 | k + 1 => by
  obtain ⟨ih0, ih1⟩ := Z39.mono_l k
  refine ⟨?_, ?_⟩
  ·intro y0 y1 y2
   unfold Z39.j0
   repeat' first|exact ih0 _ _ _|exact ih1 _ _ _ _ _|exact Z56.mono _ _|exact lo_|refine LeO.ite ?_ ?_|refine LeO.bind ?_ (fun _ => ?_)
  ·intro y0 y1 y2 y3 y4
   unfold Z39.l0
   repeat' first|exact ih0 _ _ _|exact ih1 _ _ _ _ _|exact Z56.mono _ _|exact lo_|refine LeO.ite ?_ ?_|refine LeO.bind ?_ (fun _ => ?_)
theorem Z39.mono : ∀ a0 a1 k, LeO (Z39.f k a0 a1) (Z39.f (k + 1) a0 a1) := by
 intro a0 a1 k
 obtain ⟨ih0, ih1⟩ := Z39.mono_l k
 unfold Z39.f
 repeat' first|exact ih0 _ _ _|exact ih1 _ _ _ _ _|exact Z56.mono _ _|exact lo_|refine LeO.ite ?_ ?_|refine LeO.bind ?_ (fun _ => ?_)
set_option maxHeartbeats 8000000 in
set_option maxRecDepth 100000 in
theorem Z39.calls (k : Nat) (A0 : Option Addr) (c0 : Nat) (l0 : List Int) (A1 : Option Addr) (c1 : Nat) (l1 : List Int) (r : List Int) (w : World) (hr0 : Kd.C (Kd.int .i64) w A0 l0.length l0) (hc0 : l0.length ≤ c0) (hr1 : Kd.C (Kd.int .i64) w A1 l1.length l1) (hc1 : l1.length ≤ c1) (h : Z39.f k l0 l1 = some r) :
  Calls Try.prog 152 #[.slice A0 l0.length c0, .slice A1 l1.length c1] w fun e w' => ∃ v0_ : Value, e = .returned (v0_) ∧ Kd.R (Kd.int .i64) 3 w' w.heap.size (fun _ => True) v0_ r ∧ Below w.heap.size w w' := by
 have HR0 := A_ hr0
 have HC0 := A_ hc0
 clear hr0 hc0
 have HR1 := A_ hr1
 have HC1 := A_ hc1
 clear hr1 hc1
 have HB := A_ (Below.refl w.heap.size w)
 have H := h
 unfold Z39.f at H
 clear h
 have HC3 := A_ H
 clear H
 go_enter Try.func152, Try.ntmps152
 go_upto_region 1 with (fail)
 go_cut [22] (fun v22 wc => ∃ (kq : Nat) (x22_2 : Bool), v22 = .bool x22_2 ∧ Aside0 (Z39.j0 kq l0 l1 x22_2 = some r) ∧ Aside0 (kq ≤ k) ∧ Aside0 (Below w.heap.size w wc))
 case first =>
  have H := HC3.out
  clear HC3
  obtain ⟨t316, A4, H⟩ := bi_ H
  by_cases c5 : t316 = true
  ·subst c5
   rw [if_pos rfl] at H
   obtain ⟨t317, A6, H⟩ := bi_ H
   by_cases c7 : t317 = true
   ·subst c7
    rw [if_pos rfl] at H
    have H' := A_ H
    clear H
    go_wp2_with (first | ((with_reducible refine gA_ (f := 109) rfl ?_); refine gL_ (some 9) Try.func109 #[.slice A0 l0.length c0] rfl qa_ ?_; (with_reducible refine (Z56.calls k _ _ l0 true _ (cb_ HR0) HC0.out A4.out).mono ?_); rintro e w8 ⟨rfl, hb⟩; refine ⟨_, rfl, ?_⟩; replace HB := b1_ hb; clear hb) | (go_at_call 109; (with_reducible refine (Z56.calls k _ _ l1 true _ (cb_ HR1) HC1.out A6.out).mono ?_); rintro e w9 ⟨rfl, hb⟩; replace HB := b1_ hb; clear hb))
    go_meet
    case rel => exact ⟨_, (((l0.length : Int) != (l1.length : Int))), qc_, H', ⟨qd_⟩, ⟨hB_⟩⟩
   ·replace c7 := Bool.eq_false_iff.mpr c7
    subst c7
    have H1 : (Z39.j0 k l0 l1 true) = some r := by rw [if_neg (show ¬ (false = true) by decide)] at H; exact H
    clear H
    have H := H1
    clear H1
    have H' := A_ H
    clear H
    go_wp2_with (first | ((with_reducible refine gA_ (f := 109) rfl ?_); refine gL_ (some 9) Try.func109 #[.slice A0 l0.length c0] rfl qa_ ?_; (with_reducible refine (Z56.calls k _ _ l0 true _ (cb_ HR0) HC0.out A4.out).mono ?_); rintro e w10 ⟨rfl, hb⟩; refine ⟨_, rfl, ?_⟩; replace HB := b1_ hb; clear hb) | (go_at_call 109; (with_reducible refine (Z56.calls k _ _ l1 false _ (cb_ HR1) HC1.out A6.out).mono ?_); rintro e w11 ⟨rfl, hb⟩; replace HB := b1_ hb; clear hb))
    go_meet
    case rel => exact ⟨_, (true), qc_, H', ⟨qd_⟩, ⟨hB_⟩⟩
  ·replace c5 := Bool.eq_false_iff.mpr c5
   subst c5
   have H1 : (Z39.j0 k l0 l1 true) = some r := by rw [if_neg (show ¬ (false = true) by decide)] at H; exact H
   clear H
   have H := H1
   clear H1
   have H' := A_ H
   clear H
   go_wp2_with (first | ((with_reducible refine gA_ (f := 109) rfl ?_); refine gL_ (some 9) Try.func109 #[.slice A0 l0.length c0] rfl qa_ ?_; (with_reducible refine (Z56.calls k _ _ l0 false _ (cb_ HR0) HC0.out A4.out).mono ?_); rintro e w12 ⟨rfl, hb⟩; refine ⟨_, rfl, ?_⟩; replace HB := b1_ hb; clear hb))
   go_meet
   case rel => exact ⟨_, (true), qc_, H', ⟨qd_⟩, ⟨hB_⟩⟩
 case rest =>
  clear HC3
  obtain ⟨kq, x22_2, rfl, HA, HJ2, HB⟩ := hcut
  cases kq with
  | zero => exact absurd HA.out (by simp [Z39.j0])
  | succ kj2 =>
   have H := HA.out
   clear HA
   simp only [Z39.j0] at H
   by_cases c13 : x22_2 = true
   ·subst c13
    rw [if_pos rfl] at H
    obtain rfl := Option.some.inj H
    go_wp2
    go_ret
    exact ⟨_, qb_, by first | exact Kd.R_nil _ _ _ _ _ | exact Kd.N_nil _ _ _ _ _ | exact Kd.V_nil _ _ _ _ _ | exact Kd.Q_nil _ _ _ _ _ | exact Kd.S_nil _ _ _ _ _, hB_⟩
   ·replace c13 := Bool.eq_false_iff.mpr c13
    subst c13
    have H1 : (if 0 ≤ (l0.length : Int) then (if ((l0.length : Int) : Int).toNat ≤ 35184372088832 then (Z39.l0 kj2 l1 (List.replicate ((l0.length : Int) : Int).toNat 0) l0 (l0.length : Int) 0) else (none)) else (none)) = some r := by rw [if_neg (show ¬ (false = true) by decide)] at H; exact H
    clear H
    have H := H1
    clear H1
    have c14 := cp_ H
    replace H := ca_ H
    have c14b0 := eq_true c14
    have c14b1 := oC_ c14
    clear c14
    have c15 := cp_ H
    replace H := ca_ H
    have c15b0 := eq_true c15
    have c15b1 := oC_ c15
    clear c15
    obtain ⟨y318, hy318⟩ : ∃ y_ : List Int, y_ = (List.replicate ((l0.length : Int) : Int).toNat 0) := ⟨_, rfl⟩
    replace H : (Z39.l0 kj2 l1 y318 l0 (l0.length : Int) 0) = some r := by first | (rw [hy318]; exact H) | exact H
    have Ny318 := A_ hy318
    clear hy318
    have H' := A_ H
    clear H
    go_wp2_with (first | ((with_reducible refine gB_ (N := 25) rfl ?_); (try (refine gate_guard (by rfl) ?_; dsimp only)); refine Kd.R_make (Kd.int .i64) _ 3 rfl (N := 25) rfl 23 _ _ rfl (l0.length : Int) rfl rfl Try.underlying23 (.int .i64 0) 8 info3 rfl (by decide) (by omega) 0 (ok := fun _ => True) (okp := fun _ => True) rfl (fun _ hk => hk) trivial (oB_ qe_) (Nat.le_trans (Nat.mul_le_mul_right _ (oB_ qe_ : (l0.length : Int).toNat ≤ 35184372088832)) (by omega)) (Below.refl _ _) (nA_ _) ?_; intro v319 w16 ho17 hb hg_ hnew_; clear hg_ hnew_; (first | rw [← Ny318.out] at ho17 | (simp only [Int.reduceToNat] at ho17; rw [← Ny318.out] at ho17)); have HO320 := rl_ w ho17; replace HB := b1_ hb; clear hb ho17))
    go_loopg [28] kj2 (fun kq v28 w' => ∃ (x5_2 : List Int) (x28_2 : Int), v28 = .int .i64 x28_2 ∧ Aside0 (Z39.l0 kq l1 x5_2 l0 (l0.length : Int) x28_2 = some r) ∧ Aside0 (kq ≤ kj2) ∧ Aside0 (Kd.R (Kd.int .i64) 3 w' w.heap.size (fun _ => True) v319 x5_2) ∧ Aside0 (Below w.heap.size w w'))
    case atStart => exact ⟨(y318), (0), qc_, H', ⟨nA_ _⟩, ⟨(rr_ HO320)⟩, ⟨hB_⟩⟩
    case round =>
     clear H'
     obtain ⟨x5_2, x28_2, rfl, HA, HK2, HO_5, HB⟩ := hrel
     cases gk with
     | zero => exact absurd HA.out (by simp [Z39.l0])
     | succ k2 =>
      have H := HA.out
      clear HA
      simp only [Z39.l0] at H
      by_cases c18 : x28_2 < (l0.length : Int)
      ·rw [if_pos c18] at H
       have c18b0 := oC_ c18
       clear c18
       have c19 := cp_ H
       replace H := ca_ H
       have c19b0 := oC_ c19
       clear c19
       have c20 := cp_ H
       replace H := ca_ H
       have c20b0 := oC_ c20
       clear c20
       have c21 := cp_ H
       replace H := ca_ H
       have c21b0 := oC_ c21
       clear c21
       have c22 := cp_ H
       replace H := ca_ H
       have c22b0 := oC_ c22
       clear c22
       have c23 := cp_ H
       replace H := ca_ H
       have c23b0 := oC_ c23
       clear c23
       obtain ⟨y323, hy323⟩ : ∃ y_ : List Int, y_ = (x5_2.set (x28_2 : Int).toNat (rd l1 (rd l0 x28_2))) := ⟨_, rfl⟩
       replace H : (Z39.l0 k2 l1 y323 l0 (l0.length : Int) (wrap64 (x28_2 + 1))) = some r := by first | (rw [hy323]; exact H) | exact H
       have Ny323 := A_ hy323
       clear hy323
       have H' := A_ H
       clear H
       have p321 : 0 ≤ (x28_2 : Int) := oB_ qe_
       have q321 : x28_2 < (l0.length : Int) := oB_ qe_
       obtain ⟨ad321, e321, hx321_0⟩ := Kd.at_int HR0.out x28_2 p321 q321
       cases e321
       replace hx321_0 := (HB.out.cell (World.block_lt_of_cell? w _ hx321_0)).trans hx321_0
       replace p321 := eq_true p321
       replace q321 := eq_true q321
       have p322 : 0 ≤ ((rd l0 x28_2) : Int) := oB_ qe_
       have q322 : (rd l0 x28_2) < (l1.length : Int) := oB_ qe_
       obtain ⟨ad322, e322, hx322_0⟩ := Kd.at_int HR1.out (rd l0 x28_2) p322 q322
       cases e322
       replace hx322_0 := (HB.out.cell (World.block_lt_of_cell? w _ hx322_0)).trans hx322_0
       replace p322 := eq_true p322
       replace q322 := eq_true q322
       have p24 : 0 ≤ (x28_2 : Int) := oB_ qe_
       have q24 : (x28_2 : Int) < ((x5_2.length : Int) : Int) := oB_ qe_
       obtain ⟨go24, co24, eo24, gb24, gl24, cl24, HG24⟩ := Kd.R_form HO_5.out (by omega)
       (first | cases eo24 | (injection eo24 with ea_ en_ ec_; (first | subst ea_ | (injection ea_ with ea_; subst ea_)); subst ec_; clear en_))
       have GB24 := A_ gb24
       have GG24 := A_ HG24
       clear gb24 gl24 HG24
       obtain ⟨hx24_0, hf24_0⟩ := Kd.R_celln 0 HO_5.out (x28_2 : Int) p24 q24
       replace p24 := eq_true p24
       replace q24 := eq_true q24
       have HP25 := Kd.R_putg HO_5.out (x28_2 : Int) (rd l1 (rd l0 x28_2))
       go_wp2_with (first | ((with_reducible refine gate_store (t := 3) (p := 39) rfl ?_); refine store_event (t := 3) (p := 39) (v := ?vo_w26) (w1 := (wr.setCell ⟨go24, (x28_2 : Int).toNat, none⟩ (.int .i64 (rd l1 (rd l0 x28_2))))) ?hg ?ho ?hn ?hr ?_; (case ho => rfl); (case hg => rfl); (case hn => rfl); (case hr => first | (go_simp; done) | (go_simp; rfl)); intro w26 hw; have hg : wr.grownBy w26 (some go24) := (by rw [hw]; exact HP25.2); have hp_ : Kd.R (Kd.int .i64) 3 w26 w.heap.size (fun _ => True) (.slice (some ⟨go24, 0, none⟩) x5_2.length co24) y323 := (by rw [hw, Ny323.out]; exact HP25.1); clear HP25; replace HO_5 := A_ (hp_); replace HB := A_ ((by rw [hw]; exact bD_ (HB.out) GB24.out : Below w.heap.size w w26)); clear hg hw hp_))
       go_roundg k2
       case measure => have := HJ2.out; have := HK2.out; omega
       case rel => exact ⟨(y323), (wrap64 (x28_2 + 1)), qc_, H', ⟨by have := HJ2.out; have := HK2.out; omega⟩, ⟨(rr_ HO_5)⟩, ⟨hB_⟩⟩
      ·rw [if_neg c18] at H
       have c18b0 := oD_ c18
       clear c18
       obtain rfl := Option.some.inj H
       go_wp2
       go_ret
       exact ⟨_, qb_, (rr_ HO_5), hB_⟩
end Go.Proofs.Ytoijcallajegfaa.A
end
section
namespace Go.Proofs.Ytoijcallajegfaa.A
open Go.RowKit Go.Proofs.YtoijcallajegfaaW.PrintWords Go.Proofs.YtoijcallajegfaaW.PrintLast Go.Proofs.YtoijcallajegfaaW.PrintMore
attribute [local go_sem] max2_int min2_int max_two min_two max_three min_three max_four min_four
set_option linter.unusedVariables false
set_option linter.unusedSimpArgs false
def Z36.f (k : Nat) (l0_0 : List Int) (l0_1 : List Int) : Option (List Int) := (Z31.f k l0_0 l0_1).bind fun t325 => (if t325 = true then ((Z39.f k l0_0 l0_1).bind fun t326 => ((Z17.f k l0_0).bind fun t329 => ((Z17.f k l0_1).bind fun t332 => ((Z39.f k t329 t332).bind fun t335 => ((Z39.f k t326 t335).bind fun t338 => (some t338)))))) else (some ([] : List Int)))
theorem Z36.mono : ∀ a0 a1 k, LeO (Z36.f k a0 a1) (Z36.f (k + 1) a0 a1) := by
 intro a0 a1 k
 unfold Z36.f
 repeat' first|exact Z17.mono _ _|exact Z31.mono _ _ _|exact Z39.mono _ _ _|exact lo_|refine LeO.ite ?_ ?_|refine LeO.bind ?_ (fun _ => ?_)
def Z36.T3 : Bool × List (List Nat × List Nat) := (true, [([], []), ([0], [0]), ([], []), ([2], [2]), ([1, 3], [1, 3]), ([], []), ([5], [5]), ([6, 4], [6]), ([], []), ([8], [8]), ([9, 7], [9]), ([7, 10, 10], [7, 10]), ([4, 11, 11], [4, 11]), ([12, 12, 0, 1, 2, 3, 4, 5, 6, 7, 8, 9, 10, 11, 12], [12])])
def Z36.B3 : List Nat := [0, 1, 0, 4, 15, 0, 32, 127, 0, 256, 1023, 2047, 4095, 8191]
theorem Z36.tab3 : rtab .any (opsOf Try.f120 3) = Z36.T3 := by kernel_rfl
theorem Z36.bits3 : waitsOk Z36.T3.2 Z36.B3 = true := by kernel_rfl
set_option maxHeartbeats 8000000 in
set_option maxRecDepth 100000 in
theorem Z36.calls (k : Nat) (A0_0 : Option Addr) (c0_0 : Nat) (l0_0 : List Int) (A0_1 : Option Addr) (c0_1 : Nat) (l0_1 : List Int) (r : List Int) (w : World) (hr0_0 : Kd.C (Kd.int .i64) w A0_0 l0_0.length l0_0) (hc0_0 : l0_0.length ≤ c0_0) (hr0_1 : Kd.C (Kd.int .i64) w A0_1 l0_1.length l0_1) (hc0_1 : l0_1.length ≤ c0_1) (h : Z36.f k l0_0 l0_1 = some r) :
  Calls Try.prog 120 #[.agg #[.slice A0_0 l0_0.length c0_0, .slice A0_1 l0_1.length c0_1]] w fun e w' => ∃ v0_ : Value, e = .returned (v0_) ∧ Kd.R (Kd.int .i64) 3 w' w.heap.size (fun _ => True) v0_ r ∧ Below w.heap.size w w' := by
 have hu33 := Try.underlying33
 have HR0_0 := A_ hr0_0
 have HC0_0 := A_ hc0_0
 clear hr0_0 hc0_0
 have HR0_1 := A_ hr0_1
 have HC0_1 := A_ hc0_1
 clear hr0_1 hc0_1
 have HB := A_ (Below.refl w.heap.size w)
 have H := h
 unfold Z36.f at H
 clear h
 obtain ⟨t325, A2, H⟩ := bi_ H
 by_cases c3 : t325 = true
 ·subst c3
  rw [if_pos rfl] at H
  obtain ⟨t326, A4, H⟩ := bi_ H
  obtain ⟨t329, A5, H⟩ := bi_ H
  obtain ⟨t332, A6, H⟩ := bi_ H
  obtain ⟨t335, A7, H⟩ := bi_ H
  obtain ⟨t338, A8, H⟩ := bi_ H
  obtain rfl := Option.some.inj H
  go_enter Try.func120, Try.ntmps120
  try go_wp2_with (first | ((with_reducible refine gB_ (N := 1) rfl ?_); refine bx_ 1 #[.slice A0_0 l0_0.length c0_0, .slice A0_1 l0_1.length c0_1] 33 ?_; intro gb324 hg w9 hbox hb; have BK324 := A_ hbox; have GW324 := gw_ w hg; have GE324 := GW324; replace HB := b1_ hb; clear hb hbox hg; obtain ⟨hcz10_0, hcz10_1, hfz10_0, hfz10_1⟩ := c2_ BK324) | ((with_reducible refine gA_ (f := 19) rfl ?_); refine gL_ (some 4) Try.func19 #[.agg #[.slice A0_0 l0_0.length c0_0, .slice A0_1 l0_1.length c0_1]] rfl qa_ ?_; (with_reducible refine (Z31.calls k _ _ l0_0 _ _ l0_1 true _ (cb_ HR0_0) HC0_0.out (cb_ HR0_1) HC0_1.out A2.out).mono ?_); rintro e w11 ⟨rfl, hb⟩; refine ⟨_, rfl, ?_⟩; replace BK324 := bb_ BK324 hb; replace HB := b1_ hb; clear hb))
  replace BK324 := A_ (kB_ BK324.out)
  replace HB := A_ (bC_ HB.out)
  refine start_ (n := 14) (S := fun w' => w'.cell? ⟨gb324, 0, none⟩ = some (.slice A0_0 l0_0.length c0_0) ∧ w'.cell? ⟨gb324, 1, none⟩ = some (.slice A0_1 l0_1.length c0_1)) (ds := []) (bl_ 14 0) (by kernel_rfl) rfl (by kernel_rfl) ⟨cz0_ BK324, cz1_ BK324⟩ (fun hHeld => ?_); refine with_tabW Z36.tab3 Z36.bits3 (fun HT_ HW_ => ?_)
  generalize w11.drew = w12 at BK324 HB hHeld ⊢
  refine pu_ 0 (some 6) (bl_ 14 1) HT_ ?_
  refine pu_ 2 (some 8) (bl_ 14 5) HT_ ?_
  refine pu_ 5 (some 11) (bl_ 14 37) HT_ ?_
  refine pu_ 8 (some 14) (bl_ 14 293) HT_ ?_
  refine ta_ 1 (some 7) (bl_ 14 295) HT_ HW_ hHeld ?_
  refine ta_ 3 (some 9) (bl_ 14 303) HT_ HW_ hHeld ?_
  refine ta_ 6 (some 12) (bl_ 14 367) HT_ HW_ hHeld ?_
  refine ta_ 9 (some 15) (bl_ 14 879) HT_ HW_ hHeld ?_
  refine on_ 4 (some 10) (bl_ 14 895) HT_ (fun K hK => ?_)
  refine gO_ Try.func152 #[.slice A0_0 l0_0.length c0_0, .slice A0_1 l0_1.length c0_1] (by rfl) rfl rfl qa_ ?_
  with_reducible refine (Z39.calls k _ _ l0_0 _ _ l0_1 t326 _ (cb_ HR0_0) HC0_0.out (cb_ HR0_1) HC0_1.out A4.out).mono ?_
  rintro e w13 ⟨v327, rfl, ho0, hb⟩
  refine ⟨_, rfl, ?_⟩
  have HO328 := rl_ w ho0
  replace BK324 := bb_ BK324 hb
  replace HB := b1_ hb
  clear hb ho0
  refine hK.out _ _ ⟨cz0_ BK324, cz1_ BK324⟩ (fun hHeld => ?_)
  clear hK K
  refine no_ (some 10) ?_
  refine on_ 7 (some 13) (bl_ 14 1023) HT_ (fun K hK => ?_)
  refine gO_ Try.func122 #[.slice A0_0 l0_0.length c0_0] (by rfl) rfl rfl qa_ ?_
  with_reducible refine (Z17.calls k _ _ l0_0 t329 _ (cb_ HR0_0) HC0_0.out A5.out).mono ?_
  rintro e w14 ⟨v330, rfl, ho0, hb⟩
  refine ⟨_, rfl, ?_⟩
  have HO331 := A_ (rE_ (Kd.R_new' ho0 (Kd.R_lt (rr_ HO328))) (bF_ hB_))
  replace HO328 := A_ (Kd.R_elder' (rr_ HO328) (Kd.R_base ho0) hb)
  replace BK324 := bb_ BK324 hb
  replace HB := b1_ hb
  clear hb ho0
  refine hK.out _ _ ⟨cz0_ BK324, cz1_ BK324⟩ (fun hHeld => ?_)
  clear hK K
  refine no_ (some 13) ?_
  refine on_ 10 (some 16) (bl_ 14 2047) HT_ (fun K hK => ?_)
  refine gO_ Try.func122 #[.slice A0_1 l0_1.length c0_1] (by rfl) rfl rfl qa_ ?_
  with_reducible refine (Z17.calls k _ _ l0_1 t332 _ (cb_ HR0_1) HC0_1.out A6.out).mono ?_
  rintro e w15 ⟨v333, rfl, ho0, hb⟩
  refine ⟨_, rfl, ?_⟩
  have HO334 := A_ (rE_ (Kd.R_new' (Kd.R_new' ho0 (Kd.R_lt (rr_ HO328))) (Kd.R_lt (rr_ HO331))) (bF_ hB_))
  replace HO328 := A_ (Kd.R_elder' (rr_ HO328) (Kd.R_base ho0) hb)
  replace HO331 := A_ (Kd.R_elder' (rr_ HO331) (Kd.R_base ho0) hb)
  replace BK324 := bb_ BK324 hb
  replace HB := b1_ hb
  clear hb ho0
  obtain ⟨Ao16, co16, eo16⟩ := Kd.R_slice HO331.out
  (first | subst eo16 | (injection eo16 with f1_ f2_ f3_; have f4_ := f1_.symm; have f5_ := f3_.symm; clear f1_ f2_ f3_; subst f4_; subst f5_))
  obtain ⟨Ao17, co17, eo17⟩ := Kd.R_slice HO334.out
  (first | subst eo17 | (injection eo17 with f1_ f2_ f3_; have f4_ := f1_.symm; have f5_ := f3_.symm; clear f1_ f2_ f3_; subst f4_; subst f5_))
  refine hK.out _ _ ⟨cz0_ BK324, cz1_ BK324⟩ (fun hHeld => ?_)
  clear hK K
  refine no_ (some 16) ?_
  refine on_ 11 (some 17) (bl_ 14 4095) HT_ (fun K hK => ?_)
  refine gO_ Try.func152 #[.slice Ao16 t329.length co16, .slice Ao17 t332.length co17] (by rfl) rfl rfl qa_ ?_
  with_reducible refine (Z39.calls k _ _ t329 _ _ t332 t335 _ (cr_ HO331) ((Kd.R_reads' HO331.out).2.1) (cr_ HO334) ((Kd.R_reads' HO334.out).2.1) A7.out).mono ?_
  rintro e w18 ⟨v336, rfl, ho0, hb⟩
  refine ⟨_, rfl, ?_⟩
  have HO337 := A_ (rE_ (Kd.R_new' (Kd.R_new' (Kd.R_new' ho0 (Kd.R_lt (rr_ HO328))) (Kd.R_lt (rr_ HO331))) (Kd.R_lt (rr_ HO334))) (bF_ hB_))
  replace HO328 := A_ (Kd.R_elder' (rr_ HO328) (Kd.R_base ho0) hb)
  replace HO331 := A_ (Kd.R_elder' (rr_ HO331) (Kd.R_base ho0) hb)
  replace HO334 := A_ (Kd.R_elder' (rr_ HO334) (Kd.R_base ho0) hb)
  replace BK324 := bb_ BK324 hb
  replace HB := b1_ hb
  clear hb ho0
  obtain ⟨Ao19, co19, eo19⟩ := Kd.R_slice HO328.out
  (first | subst eo19 | (injection eo19 with f1_ f2_ f3_; have f4_ := f1_.symm; have f5_ := f3_.symm; clear f1_ f2_ f3_; subst f4_; subst f5_))
  obtain ⟨Ao20, co20, eo20⟩ := Kd.R_slice HO337.out
  (first | subst eo20 | (injection eo20 with f1_ f2_ f3_; have f4_ := f1_.symm; have f5_ := f3_.symm; clear f1_ f2_ f3_; subst f4_; subst f5_))
  refine hK.out _ _ ⟨cz0_ BK324, cz1_ BK324⟩ (fun hHeld => ?_)
  clear hK K
  refine no_ (some 17) ?_
  refine on_ 12 (some 18) (bl_ 14 8191) HT_ (fun K hK => ?_)
  refine gO_ Try.func152 #[.slice Ao19 t326.length co19, .slice Ao20 t335.length co20] (by rfl) rfl rfl qa_ ?_
  with_reducible refine (Z39.calls k _ _ t326 _ _ t335 t338 _ (cr_ HO328) ((Kd.R_reads' HO328.out).2.1) (cr_ HO337) ((Kd.R_reads' HO337.out).2.1) A8.out).mono ?_
  rintro e w21 ⟨v339, rfl, ho0, hb⟩
  refine ⟨_, rfl, ?_⟩
  have HO340 := A_ (rE_ (Kd.R_new' (Kd.R_new' (Kd.R_new' (Kd.R_new' ho0 (Kd.R_lt (rr_ HO328))) (Kd.R_lt (rr_ HO331))) (Kd.R_lt (rr_ HO334))) (Kd.R_lt (rr_ HO337))) (bF_ hB_))
  replace HO328 := A_ (Kd.R_elder' (rr_ HO328) (Kd.R_base ho0) hb)
  replace HO331 := A_ (Kd.R_elder' (rr_ HO331) (Kd.R_base ho0) hb)
  replace HO334 := A_ (Kd.R_elder' (rr_ HO334) (Kd.R_base ho0) hb)
  replace HO337 := A_ (Kd.R_elder' (rr_ HO337) (Kd.R_base ho0) hb)
  replace BK324 := bb_ BK324 hb
  replace HB := b1_ hb
  clear hb ho0
  refine hK.out _ _ ⟨cz0_ BK324, cz1_ BK324⟩ (fun hHeld => ?_)
  clear hK K
  refine no_ (some 18) ?_
  refine pu_ 13 (some 2) (bl_ 14 16383) HT_ ?_
  refine done_ (done_of HT_.out (by kernel_rfl)) ?_
  try go_wp2
  go_ret
  exact ⟨_, qb_, (rw_ (Kd.R_mono HO340.out (fun _ hk => trivial))), hB_⟩
 ·replace c3 := Bool.eq_false_iff.mpr c3
  subst c3
  have H1 : (some ([] : List Int)) = some r := by rw [if_neg (show ¬ (false = true) by decide)] at H; exact H
  clear H
  have H := H1
  clear H1
  obtain rfl := Option.some.inj H
  go_enter Try.func120, Try.ntmps120
  go_wp2_with (first | ((with_reducible refine gB_ (N := 1) rfl ?_); refine bx_ 1 #[.slice A0_0 l0_0.length c0_0, .slice A0_1 l0_1.length c0_1] 33 ?_; intro gb324 hg w22 hbox hb; have BK324 := A_ hbox; have GW324 := gw_ w hg; have GE324 := GW324; replace HB := b1_ hb; clear hb hbox hg; obtain ⟨hcz23_0, hcz23_1, hfz23_0, hfz23_1⟩ := c2_ BK324) | ((with_reducible refine gA_ (f := 19) rfl ?_); refine gL_ (some 4) Try.func19 #[.agg #[.slice A0_0 l0_0.length c0_0, .slice A0_1 l0_1.length c0_1]] rfl qa_ ?_; (with_reducible refine (Z31.calls k _ _ l0_0 _ _ l0_1 false _ (cb_ HR0_0) HC0_0.out (cb_ HR0_1) HC0_1.out A2.out).mono ?_); rintro e w24 ⟨rfl, hb⟩; refine ⟨_, rfl, ?_⟩; replace BK324 := bb_ BK324 hb; replace HB := b1_ hb; clear hb))
  go_ret
  exact ⟨_, qb_, by first | exact Kd.R_nil _ _ _ _ _ | exact Kd.N_nil _ _ _ _ _ | exact Kd.V_nil _ _ _ _ _ | exact Kd.Q_nil _ _ _ _ _ | exact Kd.S_nil _ _ _ _ _, hB_⟩
def Z27.f (k : Nat) (l0_0 : List Int) (l0_1 : List Int) : Option ((List (List Int))) := (Z31.f k l0_0 l0_1).bind fun t342 => (if t342 = true then ((Z36.f k l0_0 l0_1).bind fun t343 => ((Z37.f k t343).bind fun t346 => (some t346))) else (some ([] : List (List Int))))
theorem Z27.mono : ∀ a0 a1 k, LeO (Z27.f k a0 a1) (Z27.f (k + 1) a0 a1) := by
 intro a0 a1 k
 unfold Z27.f
 repeat' first|exact Z36.mono _ _ _|exact Z37.mono _ _|exact Z31.mono _ _ _|exact lo_|refine LeO.ite ?_ ?_|refine LeO.bind ?_ (fun _ => ?_)
set_option maxHeartbeats 8000000 in
set_option maxRecDepth 100000 in
theorem Z27.calls (k : Nat) (A0_0 : Option Addr) (c0_0 : Nat) (l0_0 : List Int) (A0_1 : Option Addr) (c0_1 : Nat) (l0_1 : List Int) (r : List (List Int)) (w : World) (hr0_0 : Kd.C (Kd.int .i64) w A0_0 l0_0.length l0_0) (hc0_0 : l0_0.length ≤ c0_0) (hr0_1 : Kd.C (Kd.int .i64) w A0_1 l0_1.length l0_1) (hc0_1 : l0_1.length ≤ c0_1) (h : Z27.f k l0_0 l0_1 = some r) :
  Calls Try.prog 72 #[.agg #[.slice A0_0 l0_0.length c0_0, .slice A0_1 l0_1.length c0_1]] w fun e w' => ∃ v0_ : Value, e = .returned (v0_) ∧ Kd.S (Kd.slice 3 (Kd.int .i64)) 23 w' w.heap.size (fun _ => True) v0_ r ∧ Below w.heap.size w w' := by
 have hu33 := Try.underlying33
 have HR0_0 := A_ hr0_0
 have HC0_0 := A_ hc0_0
 clear hr0_0 hc0_0
 have HR0_1 := A_ hr0_1
 have HC0_1 := A_ hc0_1
 clear hr0_1 hc0_1
 have HB := A_ (Below.refl w.heap.size w)
 have H := h
 unfold Z27.f at H
 clear h
 obtain ⟨t342, A2, H⟩ := bi_ H
 by_cases c3 : t342 = true
 ·subst c3
  rw [if_pos rfl] at H
  obtain ⟨t343, A4, H⟩ := bi_ H
  obtain ⟨t346, A5, H⟩ := bi_ H
  obtain rfl := Option.some.inj H
  go_enter Try.func72, Try.ntmps72
  go_wp2_with (first | ((with_reducible refine gB_ (N := 1) rfl ?_); refine bx_ 1 #[.slice A0_0 l0_0.length c0_0, .slice A0_1 l0_1.length c0_1] 33 ?_; intro gb341 hg w6 hbox hb; have BK341 := A_ hbox; have GW341 := gw_ w hg; have GE341 := GW341; replace HB := b1_ hb; clear hb hbox hg; obtain ⟨hcz7_0, hcz7_1, hfz7_0, hfz7_1⟩ := c2_ BK341) | ((with_reducible refine gA_ (f := 19) rfl ?_); refine gL_ (some 4) Try.func19 #[.agg #[.slice A0_0 l0_0.length c0_0, .slice A0_1 l0_1.length c0_1]] rfl qa_ ?_; (with_reducible refine (Z31.calls k _ _ l0_0 _ _ l0_1 true _ (cb_ HR0_0) HC0_0.out (cb_ HR0_1) HC0_1.out A2.out).mono ?_); rintro e w8 ⟨rfl, hb⟩; refine ⟨_, rfl, ?_⟩; replace BK341 := bb_ BK341 hb; replace HB := b1_ hb; clear hb; obtain ⟨hcz9_0, hcz9_1, hfz9_0, hfz9_1⟩ := c2_ BK341) | ((with_reducible refine gA_ (f := 120) rfl ?_); refine gL_ (some 7) Try.func120 #[.agg #[.slice A0_0 l0_0.length c0_0, .slice A0_1 l0_1.length c0_1]] rfl qa_ ?_; (with_reducible refine (Z36.calls k _ _ l0_0 _ _ l0_1 t343 _ (cb_ HR0_0) HC0_0.out (cb_ HR0_1) HC0_1.out A4.out).mono ?_); rintro e w10 ⟨v344, rfl, ho0, hb⟩; refine ⟨_, rfl, ?_⟩; have HO345 := rl_ w ho0; replace BK341 := bb_ BK341 hb; replace HB := b1_ hb; clear hb ho0; obtain ⟨Ao11, co11, eo11⟩ := Kd.R_slice HO345.out; subst eo11) | ((with_reducible refine gA_ (f := 119) rfl ?_); refine gL_ (some 8) Try.func119 #[.slice Ao11 t343.length co11] rfl qa_ ?_; (with_reducible refine (Z37.calls k _ _ t343 t346 _ (cr_ HO345) ((Kd.R_reads' HO345.out).2.1) A5.out).mono ?_); rintro e w12 ⟨v347, rfl, ho0, hb⟩; refine ⟨_, rfl, ?_⟩; have HO348 := A_ (Kd.S_lower (Kd.S_new' ho0 (Kd.R_lt (rr_ HO345))) (bF_ hB_)); replace HO345 := rb_ HO345 hb; replace BK341 := bb_ BK341 hb; replace HB := b1_ hb; clear hb ho0))
  go_ret
  exact ⟨_, qb_, (sw_ (Kd.S_mono HO348.out (fun _ hk => trivial))), hB_⟩
 ·replace c3 := Bool.eq_false_iff.mpr c3
  subst c3
  have H1 : (some ([] : List (List Int))) = some r := by rw [if_neg (show ¬ (false = true) by decide)] at H; exact H
  clear H
  have H := H1
  clear H1
  obtain rfl := Option.some.inj H
  go_enter Try.func72, Try.ntmps72
  go_wp2_with (first | ((with_reducible refine gB_ (N := 1) rfl ?_); refine bx_ 1 #[.slice A0_0 l0_0.length c0_0, .slice A0_1 l0_1.length c0_1] 33 ?_; intro gb341 hg w13 hbox hb; have BK341 := A_ hbox; have GW341 := gw_ w hg; have GE341 := GW341; replace HB := b1_ hb; clear hb hbox hg; obtain ⟨hcz14_0, hcz14_1, hfz14_0, hfz14_1⟩ := c2_ BK341) | ((with_reducible refine gA_ (f := 19) rfl ?_); refine gL_ (some 4) Try.func19 #[.agg #[.slice A0_0 l0_0.length c0_0, .slice A0_1 l0_1.length c0_1]] rfl qa_ ?_; (with_reducible refine (Z31.calls k _ _ l0_0 _ _ l0_1 false _ (cb_ HR0_0) HC0_0.out (cb_ HR0_1) HC0_1.out A2.out).mono ?_); rintro e w15 ⟨rfl, hb⟩; refine ⟨_, rfl, ?_⟩; replace BK341 := bb_ BK341 hb; replace HB := b1_ hb; clear hb))
  go_ret
  exact ⟨_, qb_, by first | exact Kd.S_nil _ _ _ _ _ | exact Kd.N_nil _ _ _ _ _ | exact Kd.V_nil _ _ _ _ _ | exact Kd.Q_nil _ _ _ _ _ | exact Kd.R_nil _ _ _ _ _, hB_⟩
def Z46.f (k : Nat) (l0_0 : List Int) (l0_1 : List Int) : Option (Int) := (Z31.f k l0_0 l0_1).bind fun t350 => (if t350 = true then ((Z11.f k l0_0 l0_1).bind fun t351 => ((Z27.f k l0_0 l0_1).bind fun t352 => (some (wrap64 (1 + (wrap64 (Int.tdiv (wrap64 (t351 - (t352.length : Int))) 2))))))) else (some (-1)))
theorem Z46.mono : ∀ a0 a1 k, LeO (Z46.f k a0 a1) (Z46.f (k + 1) a0 a1) := by
 intro a0 a1 k
 unfold Z46.f
 repeat' first|exact Z27.mono _ _ _|exact Z11.mono _ _ _|exact Z31.mono _ _ _|exact lo_|refine LeO.ite ?_ ?_|refine LeO.bind ?_ (fun _ => ?_)
def Z46.T3 : Bool × List (List Nat × List Nat) := (true, [([], []), ([0], [0]), ([], []), ([2, 1], [2]), ([3], [3]), ([1, 4], [1, 4]), ([5], [5]), ([6], [6]), ([7, 3, 0, 1, 2, 3, 4, 5, 6, 7], [7])])
def Z46.B3 : List Nat := [0, 1, 0, 7, 15, 31, 63, 127, 255]
theorem Z46.tab3 : rtab .any (opsOf Try.f27 3) = Z46.T3 := by kernel_rfl
theorem Z46.bits3 : waitsOk Z46.T3.2 Z46.B3 = true := by kernel_rfl
set_option maxHeartbeats 8000000 in
set_option maxRecDepth 100000 in
theorem Z46.calls (k : Nat) (A0_0 : Option Addr) (c0_0 : Nat) (l0_0 : List Int) (A0_1 : Option Addr) (c0_1 : Nat) (l0_1 : List Int) (r : Int) (w : World) (hr0_0 : Kd.C (Kd.int .i64) w A0_0 l0_0.length l0_0) (hc0_0 : l0_0.length ≤ c0_0) (hr0_1 : Kd.C (Kd.int .i64) w A0_1 l0_1.length l0_1) (hc0_1 : l0_1.length ≤ c0_1) (h : Z46.f k l0_0 l0_1 = some r) :
  Calls Try.prog 27 #[.agg #[.slice A0_0 l0_0.length c0_0, .slice A0_1 l0_1.length c0_1]] w fun e w' => e = .returned (.int .i64 r) ∧ Below w.heap.size w w' := by
 have hu33 := Try.underlying33
 have HR0_0 := A_ hr0_0
 have HC0_0 := A_ hc0_0
 clear hr0_0 hc0_0
 have HR0_1 := A_ hr0_1
 have HC0_1 := A_ hc0_1
 clear hr0_1 hc0_1
 have HB := A_ (Below.refl w.heap.size w)
 have H := h
 unfold Z46.f at H
 clear h
 obtain ⟨t350, A2, H⟩ := bi_ H
 by_cases c3 : t350 = true
 ·subst c3
  rw [if_pos rfl] at H
  obtain ⟨t351, A4, H⟩ := bi_ H
  obtain ⟨t352, A5, H⟩ := bi_ H
  obtain rfl := Option.some.inj H
  go_enter Try.func27, Try.ntmps27
  try go_wp2_with (first | ((with_reducible refine gB_ (N := 1) rfl ?_); refine bx_ 1 #[.slice A0_0 l0_0.length c0_0, .slice A0_1 l0_1.length c0_1] 33 ?_; intro gb349 hg w6 hbox hb; have BK349 := A_ hbox; have GW349 := gw_ w hg; have GE349 := GW349; replace HB := b1_ hb; clear hb hbox hg; obtain ⟨hcz7_0, hcz7_1, hfz7_0, hfz7_1⟩ := c2_ BK349) | ((with_reducible refine gA_ (f := 19) rfl ?_); refine gL_ (some 4) Try.func19 #[.agg #[.slice A0_0 l0_0.length c0_0, .slice A0_1 l0_1.length c0_1]] rfl qa_ ?_; (with_reducible refine (Z31.calls k _ _ l0_0 _ _ l0_1 true _ (cb_ HR0_0) HC0_0.out (cb_ HR0_1) HC0_1.out A2.out).mono ?_); rintro e w8 ⟨rfl, hb⟩; refine ⟨_, rfl, ?_⟩; replace BK349 := bb_ BK349 hb; replace HB := b1_ hb; clear hb))
  replace BK349 := A_ (kB_ BK349.out)
  replace HB := A_ (bC_ HB.out)
  refine start_ (n := 9) (S := fun w' => w'.cell? ⟨gb349, 0, none⟩ = some (.slice A0_0 l0_0.length c0_0) ∧ w'.cell? ⟨gb349, 1, none⟩ = some (.slice A0_1 l0_1.length c0_1)) (ds := []) (bl_ 9 0) (by kernel_rfl) rfl (by kernel_rfl) ⟨cz0_ BK349, cz1_ BK349⟩ (fun hHeld => ?_); refine with_tabW Z46.tab3 Z46.bits3 (fun HT_ HW_ => ?_)
  generalize w8.drew = w9 at BK349 HB hHeld ⊢
  refine ta_ 0 (some 6) (bl_ 9 1) HT_ HW_ hHeld ?_
  refine ta_ 2 (some 8) (bl_ 9 5) HT_ HW_ hHeld ?_
  refine on_ 1 (some 7) (bl_ 9 7) HT_ (fun K hK => ?_)
  refine gO_ Try.func23 #[.agg #[.slice A0_0 l0_0.length c0_0, .slice A0_1 l0_1.length c0_1]] (by rfl) rfl rfl qa_ ?_
  with_reducible refine (Z11.calls k _ _ l0_0 _ _ l0_1 t351 _ (cb_ HR0_0) HC0_0.out (cb_ HR0_1) HC0_1.out A4.out).mono ?_
  rintro e w10 ⟨rfl, hb⟩
  refine ⟨_, rfl, ?_⟩
  replace BK349 := bb_ BK349 hb
  replace HB := b1_ hb
  clear hb
  refine hK.out _ _ ⟨cz0_ BK349, cz1_ BK349⟩ (fun hHeld => ?_)
  clear hK K
  refine no_ (some 7) ?_
  refine on_ 3 (some 9) (bl_ 9 15) HT_ (fun K hK => ?_)
  refine gO_ Try.func72 #[.agg #[.slice A0_0 l0_0.length c0_0, .slice A0_1 l0_1.length c0_1]] (by rfl) rfl rfl qa_ ?_
  with_reducible refine (Z27.calls k _ _ l0_0 _ _ l0_1 t352 _ (cb_ HR0_0) HC0_0.out (cb_ HR0_1) HC0_1.out A5.out).mono ?_
  rintro e w11 ⟨v353, rfl, ho0, hb⟩
  refine ⟨_, rfl, ?_⟩
  have HO354 := A_ (Kd.S_lower ho0 (bF_ hB_))
  replace BK349 := bb_ BK349 hb
  replace HB := b1_ hb
  clear hb ho0
  obtain ⟨Ao12, co12, eo12⟩ := Kd.S_slice HO354.out
  (first | subst eo12 | (injection eo12 with f1_ f2_ f3_; have f4_ := f1_.symm; have f5_ := f3_.symm; clear f1_ f2_ f3_; subst f4_; subst f5_))
  refine hK.out _ _ ⟨cz0_ BK349, cz1_ BK349⟩ (fun hHeld => ?_)
  clear hK K
  refine no_ (some 9) ?_
  refine pu_ 4 (some 10) (bl_ 9 31) HT_ ?_
  refine pu_ 5 (some 11) (bl_ 9 63) HT_ ?_
  refine pu_ 6 (some 12) (bl_ 9 127) HT_ ?_
  refine pu_ 7 (some 13) (bl_ 9 255) HT_ ?_
  refine pu_ 8 (some 2) (bl_ 9 511) HT_ ?_
  refine done_ (done_of HT_.out (by kernel_rfl)) ?_
  try go_wp2
  go_ret
  exact ⟨qb_, hB_⟩
 ·replace c3 := Bool.eq_false_iff.mpr c3
  subst c3
  have H1 : (some (-1)) = some r := by rw [if_neg (show ¬ (false = true) by decide)] at H; exact H
  clear H
  have H := H1
  clear H1
  obtain rfl := Option.some.inj H
  go_enter Try.func27, Try.ntmps27
  go_wp2_with (first | ((with_reducible refine gB_ (N := 1) rfl ?_); refine bx_ 1 #[.slice A0_0 l0_0.length c0_0, .slice A0_1 l0_1.length c0_1] 33 ?_; intro gb349 hg w13 hbox hb; have BK349 := A_ hbox; have GW349 := gw_ w hg; have GE349 := GW349; replace HB := b1_ hb; clear hb hbox hg; obtain ⟨hcz14_0, hcz14_1, hfz14_0, hfz14_1⟩ := c2_ BK349) | ((with_reducible refine gA_ (f := 19) rfl ?_); refine gL_ (some 4) Try.func19 #[.agg #[.slice A0_0 l0_0.length c0_0, .slice A0_1 l0_1.length c0_1]] rfl qa_ ?_; (with_reducible refine (Z31.calls k _ _ l0_0 _ _ l0_1 false _ (cb_ HR0_0) HC0_0.out (cb_ HR0_1) HC0_1.out A2.out).mono ?_); rintro e w15 ⟨rfl, hb⟩; refine ⟨_, rfl, ?_⟩; replace BK349 := bb_ BK349 hb; replace HB := b1_ hb; clear hb))
  go_ret
  exact ⟨qb_, hB_⟩
end Go.Proofs.Ytoijcallajegfaa.A
end
section
/- Sorting a row of the call's own: what slices.SortFunc leaves. No conditions. -/
namespace Go.Proofs.Ytoijcallajegfaa.M
open Go Go.RowKit Go.Proofs.YtoijcallajegfaaW.PrintWords.Kd Go.Proofs.YtoijcallajegfaaW.PrintWords Go.Proofs.YtoijcallajegfaaW.PrintLast Go.Proofs.YtoijcallajegfaaW.PrintMore Go.Shelf Go.Lib Go.Sort Go.Proofs
structure Cel {α : Type} (d : Kd α) (Q : α → Prop) (w : World) (base : Nat) (ok : Nat → Prop) where
 x : α
 c : List Value
 h : d.M w base ok x c
 q : Q x
section
variable {α : Type} {d : Kd α} {Q : α → Prop} {w W : World} {ok : Nat → Prop} {e base g cap : Nat} {v : Value} {xs : List α}
theorem Cel.len (z : Cel d Q w base ok) : z.c.length = d.sz := d.K_len (d.K_of_M z.h)
theorem Cel.one (z : Cel d Q w base ok) : ∀ u ∈ z.c, u.oneCell' = true := d.K_one (d.K_of_M z.h)
theorem Cel.move (z : Cel d Q w base ok) (hm : ∀ k, ok k → k < w.heap.size → W.heap[k]? = w.heap[k]?) : d.M W base ok z.x z.c :=
 d.M_mono (fun _ hk => hk.1) (d.M_move (fun k hk => hm k hk.1 hk.2.2.1) (d.M_bound z.h))
theorem cels_of : ∀ (xs : List α) (rows : List (List Value)), rows.length = xs.length → (∀ x ∈ xs, Q x) → (∀ (j : Nat) (x : α) (c : List Value), xs[j]? = some x → rows[j]? = some c → d.M w base ok x c) →
  ∃ l : List (Cel d Q w base ok), l.map (·.x) = xs ∧ l.map (·.c) = rows
 | [], [], _, _, _ => ⟨[], rfl, rfl⟩
 | [], _ :: _, h, _, _ => by simp at h
 | _ :: _, [], h, _, _ => by simp at h
 | x :: xs, c :: rows, h, hq, hf => by
  obtain ⟨l, h1, h2⟩ := cels_of xs rows (by simpa using h) (fun y hy => hq y (List.mem_cons_of_mem _ hy)) (fun j y c' hy hc => hf (j + 1) y c' (by simpa using hy) (by simpa using hc))
  exact ⟨⟨x, c, hf 0 x c rfl rfl, hq x List.mem_cons_self⟩ :: l, by simp [h1], by simp [h2]⟩
theorem flat_lenK {sz : Nat} : ∀ {rows : List (List Value)}, (∀ c ∈ rows, c.length = sz) → rows.flatten.length = rows.length * sz
 | [], _ => by simp
 | c :: rows, h => by
  rw [List.flatten_cons, List.length_append, flat_lenK (fun c' hc => h c' (List.mem_cons_of_mem _ hc)), h c List.mem_cons_self, List.length_cons, Nat.add_mul, Nat.one_mul, Nat.add_comm]
theorem flat_chunk {sz : Nat} : ∀ {rows : List (List Value)} (j : Nat) (c : List Value), (∀ c ∈ rows, c.length = sz) → rows[j]? = some c → (rows.flatten.drop (j * sz)).take sz = c
 | [], j, c, _, h => by simp at h
 | r :: rows, 0, c, hl, h => by
  simp only [List.getElem?_cons_zero, Option.some.injEq] at h
  subst h
  have := hl r List.mem_cons_self
  rw [Nat.zero_mul, List.drop_zero, List.flatten_cons, List.take_append_of_le_length (by omega), List.take_of_length_le (by omega)]
 | r :: rows, j + 1, c, hl, h => by
  have h0 := hl r List.mem_cons_self
  have hd : r.drop sz = [] := List.drop_of_length_le (by omega)
  rw [List.flatten_cons, Nat.add_mul, Nat.one_mul, Nat.add_comm, ← List.drop_drop, List.drop_append_of_le_length (by omega), hd, List.nil_append]
  exact flat_chunk j c (fun c' hc => hl c' (List.mem_cons_of_mem _ hc)) (by simpa using h)
theorem flat_at {sz : Nat} {rows : List (List Value)} (hl : ∀ c ∈ rows, c.length = sz) {t : Nat} (ht : t < rows.length * sz) {c : List Value} (hc : rows[t / sz]? = some c) : rows.flatten[t]? = c[t % sz]? := by
 have h := flat_chunk (t / sz) c hl hc
 have hsz : 0 < sz := by
  rcases Nat.eq_zero_or_pos sz with h0 | h0
  ·subst h0; simp at ht
  ·exact h0
 have hm := Nat.mod_lt t hsz
 rw [← h, List.getElem?_take, if_pos hm, List.getElem?_drop, Nat.mul_comm, Nat.div_add_mod]
theorem R_of_cells {l : List (Cel d Q w base ok)} {okk : Nat → Prop} {cur : Array Value} (hg0 : okk g) (hbase : base ≤ g) (hW : ∀ k, k ≠ g → k < w.heap.size → W.heap[k]? = w.heap[k]?)
  (hg : W.heap[g]? = some (.cells cur e (0, 0))) (hn : l.length ≤ cap) (hm : cap ≤ maxLen) (hs : cur.size = cap * d.sz) (ht : cur.toList.take (l.length * d.sz) = (l.map (·.c)).flatten) (hok2 : ∀ k, ok k → okk k ∧ k ≠ g) :
  d.R e W base okk (.slice (some ⟨g, 0, none⟩) l.length cap) (l.map (·.x)) := by
 have hl : ∀ c ∈ l.map (·.c), c.length = d.sz := by
  intro c hc
  obtain ⟨z, _, rfl⟩ := List.mem_map.1 hc
  exact z.len
 refine ⟨fun k hk => ?_, (l.map (·.c)).flatten, ?_, ?_, ?_⟩
 ·simp only [Value.ownBlock, Option.some.injEq] at hk; rw [← hk]; exact hg0
 ·show World.ownsRow W base e d.sz _ _ _
  rw [List.length_map]
  exact ⟨by rw [flat_lenK hl, List.length_map], .inr ⟨g, cap, cur, rfl, hbase, hg, hn, hm, hs, ht⟩⟩
 ·rw [flat_lenK hl, List.length_map, List.length_map]
 ·intro j p hj
  rw [List.getElem?_map] at hj
  cases hz : l[j]? with
  | none => rw [hz] at hj; simp at hj
  | some z =>
   rw [hz] at hj
   simp only [Option.map_some, Option.some.injEq] at hj
   subst hj
   rw [flat_chunk j z.c hl (by rw [List.getElem?_map, hz]; rfl)]
   exact d.M_mono (fun k hk => ⟨(hok2 k hk).1, fun e_ => (hok2 k hk).2 (by simpa [Value.ownBlock] using e_)⟩) (z.move (fun k hk hlt => hW k (hok2 k hk).2 hlt))
theorem R_cells (h : d.R e w base ok v xs) (hq : ∀ x ∈ xs, Q x) (hp : 0 < xs.length) : ∃ g cap cur, v = .slice (some ⟨g, 0, none⟩) xs.length cap ∧ ok g ∧ base ≤ g ∧ g < w.heap.size ∧ w.heap[g]? = some (.cells cur e (0, 0)) ∧ xs.length ≤ cap ∧ cap ≤ maxLen ∧ cur.size = cap * d.sz ∧
  ∃ l : List (Cel d Q w base (fun k => ok k ∧ k ≠ g)), l.map (·.x) = xs ∧ cur.toList.take (xs.length * d.sz) = (l.map (·.c)).flatten := by
 obtain ⟨h0, inner, ho, hr⟩ := h
 obtain ⟨hlen, ho⟩ := ho
 rcases ho with ⟨rfl, hz⟩ | ⟨g, cap, cur, rfl, hb, hg, hn, hm, hs, ht⟩
 ·omega
 ·have hgl : g < w.heap.size := by
   rcases Nat.lt_or_ge g w.heap.size with h | h
   ·exact h
   ·rw [Array.getElem?_eq_none h] at hg; cases hg
  obtain ⟨l, h1, h2⟩ := cels_of (d := d) (w := w) (base := base) (Q := Q) (ok := fun k => ok k ∧ k ≠ g) xs (chunks d.sz xs.length inner) (chunks_length _ _ _) hq (fun j x c hx hc => by
   rw [chunks_get hc]
   exact d.M_mono (fun k hk => ⟨hk.1, fun e_ => hk.2 (by rw [e_]; rfl)⟩) (hr.2 j x hx))
  refine ⟨g, cap, cur, rfl, h0 g rfl, hb, hgl, hg, hn, hm, hs, l, h1, ?_⟩
  have hrl : ∀ c ∈ l.map (·.c), c.length = d.sz := by
   intro c hc
   obtain ⟨z, _, rfl⟩ := List.mem_map.1 hc
   exact z.len
  rw [ht]
  apply List.ext_getElem?
  intro t
  have hll : (l.map (·.c)).length = xs.length := by rw [List.length_map, ← h1, List.length_map]
  by_cases htl : t < xs.length * d.sz
  ·have hsz : 0 < d.sz := by
    rcases Nat.eq_zero_or_pos d.sz with h | h
    ·rw [h] at htl; simp at htl
    ·exact h
   have hdiv : t / d.sz < xs.length := (Nat.div_lt_iff_lt_mul hsz).2 htl
   have hc := chunks_at (sz := d.sz) (inner := inner) hdiv
   rw [← h2] at hc
   rw [flat_at hrl (by rw [hll]; exact htl) hc]
   have hmod := Nat.mod_lt t hsz
   rw [List.getElem?_take, if_pos hmod, List.getElem?_drop, Nat.mul_comm, Nat.div_add_mod]
  ·rw [List.getElem?_eq_none (by rw [hlen]; omega), List.getElem?_eq_none (by rw [flat_lenK hrl, hll]; omega)]
theorem row_after {cur F : Array Value} {m : Nat} {os : Array Obj} (hg : w.heap[g]? = some (.cells cur e (0, 0))) (hF : F.size ≤ cur.size) (hW : W = grow (putRow id (Sort.ahead w m) g 0 F) os) :
  W.heap[g]? = some (.cells (putCells id 0 F cur) e (0, 0)) ∧ (∀ k, k ≠ g → k < w.heap.size → W.heap[k]? = w.heap[k]?) ∧ w.heap.size ≤ W.heap.size ∧ W.os = w.os ∧ W.tape = w.tape ∧ W.output = w.output ∧ (putCells id 0 F cur).size = cur.size ∧ (putCells id 0 F cur).toList.take F.size = F.toList := by
 subst hW
 have hgl : g < w.heap.size := by
  rcases Nat.lt_or_ge g w.heap.size with h | h
  ·exact h
  ·rw [Array.getElem?_eq_none h] at hg; cases hg
 have hp : ∀ k, k < w.heap.size → (grow (putRow id (Sort.ahead w m) g 0 F) os).heap[k]? = (w.heap.modify g (onCells (putCells id 0 F)))[k]? := by
  intro k hk
  show ((w.heap.modify g (onCells (putCells id 0 F))) ++ os)[k]? = _
  rw [Array.getElem?_append_left (by simpa using hk)]
 refine ⟨?_, ?_, ?_, rfl, rfl, rfl, by simp [putCells], ?_⟩
 ·rw [hp g hgl, Array.getElem?_modify, if_pos rfl, hg]; rfl
 ·intro k hk hlt
  rw [hp k hlt, Array.getElem?_modify, if_neg (fun e_ => hk e_.symm)]
 ·show w.heap.size ≤ ((w.heap.modify g (onCells (putCells id 0 F))) ++ os).size
  simp
 ·apply List.ext_getElem?
  intro t
  by_cases ht : t < F.size
  ·rw [List.getElem?_take, if_pos ht, Array.getElem?_toList, Array.getElem?_toList]
   have htc : t < cur.size := by omega
   simp only [putCells, Array.getElem?_mapIdx, Array.getElem?_eq_getElem htc, Array.getElem?_eq_getElem ht, Option.map_some, Nat.zero_le, true_and, Nat.zero_add, ht, if_true, Nat.sub_zero, id]
   rw [getElem!_pos F t ht]
  ·rw [List.getElem?_eq_none (by simp; omega), List.getElem?_eq_none (by simp; omega)]
theorem perm_list {β : Type} [Inhabited β] {D D' : Array β} (h : PermIn 0 D.size D D') : D'.toList.Perm D.toList := by
 obtain ⟨hs, _, hp⟩ := h
 have h1 : D.extract 0 D.size = D := by simp
 have h2 : D'.extract 0 D.size = D' := by rw [← hs]; simp
 rw [h1, h2] at hp
 exact hp
theorem sorted_list {β : Type} [Inhabited β] {lt : β → β → Bool} {D D' : Array β} (hs : D'.size = D.size) (h : SortedIn lt 0 D.size D') : D'.toList.Pairwise (fun a b => lt b a = false) := by
 rw [List.pairwise_iff_getElem]
 intro i j hi hj hij
 have hi' : i < D'.size := by simpa using hi
 have hj' : j < D'.size := by simpa using hj
 have := h i j (Nat.zero_le _) hij (by omega)
 rwa [getElem!_pos D' i hi', getElem!_pos D' j hj'] at this
theorem below_of {b : Nat} (hW : ∀ k, k ≠ g → k < w.heap.size → W.heap[k]? = w.heap[k]?) (hs : w.heap.size ≤ W.heap.size) (h1 : W.os = w.os) (h2 : W.tape = w.tape) (h3 : W.output = w.output) (hb : b ≤ g) (hg : g < w.heap.size) : Go.RowKit.Below b w W :=
 ⟨h1, h2, h3, hs, fun k hk => hW k (by omega) (by omega)⟩
structure Ord3 (Q : α → Prop) (cf : α → α → Int) : Prop where
 irr : ∀ x, Q x → ¬ cf x x < 0
 tr : ∀ x y z, Q x → Q y → Q z → cf x y < 0 → cf y z < 0 → cf x z < 0
 nt : ∀ x y z, Q x → Q y → Q z → ¬ cf x y < 0 → ¬ cf y z < 0 → ¬ cf x z < 0
theorem Ord3.swo {cf : α → α → Int} (h : Ord3 Q cf) : SWO (ltOf fun p q : Cel d Q w base ok => cf p.x q.x) where
 irrefl p := decide_eq_false (h.irr p.x p.q)
 trans p q r h1 h2 := decide_eq_true (h.tr p.x q.x r.x p.q q.q r.q (of_decide_eq_true h1) (of_decide_eq_true h2))
 ntrans p q r h1 h2 := decide_eq_false (h.nt p.x q.x r.x p.q q.q r.q (of_decide_eq_false h1) (of_decide_eq_false h2))
def SortedTo (d : Kd α) (cf : α → α → Int) (e : Nat) (w w' : World) (base : Nat) (ok : Nat → Prop) (v : Value) (xs : List α) : Prop :=
 ∃ xs' : List α, xs'.Perm xs ∧ xs'.Pairwise (fun a b => ¬ cf b a < 0) ∧ d.R e w' base ok v xs' ∧ Kept w w' (fun k => some k = v.ownBlock) ∧ Go.RowKit.Below base w w'
theorem sortedTo_nil {cf : α → α → Int} (h : d.R e w base ok v []) : SortedTo d cf e w w base ok v [] :=
 ⟨[], List.Perm.refl _, List.Pairwise.nil, h, Kept.refl _ _, Go.RowKit.Below.refl _ _⟩
theorem sortedTo_of {cf : α → α → Int} {D D' : Array (Cel d Q w base (fun k => ok k ∧ k ≠ g))} [Inhabited (Cel d Q w base (fun k => ok k ∧ k ≠ g))] {cur F : Array Value} {m : Nat} {os : Array Obj} (hD : D.toList.map (·.x) = xs) (hp : PermIn 0 D.size D D') (hs : SortedIn (ltOf fun p q : Cel d Q w base (fun k => ok k ∧ k ≠ g) => cf p.x q.x) 0 D.size D')
  (hF : F.toList = (D'.toList.map (·.c)).flatten) (hW : W = grow (putRow id (Sort.ahead w m) g 0 F) os) (hg0 : ok g) (hb : base ≤ g) (hgl : g < w.heap.size) (hg : w.heap[g]? = some (.cells cur e (0, 0))) (hn : xs.length ≤ cap) (hm : cap ≤ maxLen) (hc : cur.size = cap * d.sz) :
  SortedTo d cf e w W base ok (.slice (some ⟨g, 0, none⟩) xs.length cap) xs := by
 have hpl := perm_list hp
 have hlen : D'.toList.length = xs.length := by rw [hpl.length_eq, ← hD, List.length_map]
 have hFs : F.size = xs.length * d.sz := by
  have h1 : F.toList.length = _ := congrArg List.length hF
  rw [flat_lenK (fun c hc => by obtain ⟨z, _, rfl⟩ := List.mem_map.1 hc; exact z.len), List.length_map, hlen] at h1
  simpa using h1
 obtain ⟨a1, a2, a3, a4, a5, a6, a7, a8⟩ := row_after (W := W) hg (by rw [hFs, hc]; exact Nat.mul_le_mul_right _ hn) hW
 have hN := R_of_cells (l := D'.toList) (okk := ok) (base := base) (e := e) (cap := cap) hg0 hb a2 a1 (by omega) hm (by omega) (by rw [hlen, ← hFs, a8, hF]) (fun k hk => hk)
 rw [hlen] at hN
 refine ⟨D'.toList.map (·.x), ?_, ?_, hN, ⟨a3, fun k hk hne => a2 k (fun e_ => hne (by rw [e_]; rfl)) hk⟩, below_of a2 a3 a4 a5 a6 hb hgl⟩
 ·rw [← hD]; exact hpl.map _
 ·rw [List.pairwise_map]
  exact (sorted_list hp.1 hs).imp (fun h => of_decide_eq_false h)
end
section
variable {P : Program} {ρ : Ren} {α : Type} {d : Kd α} {Q : α → Prop} {w : World} {ok : Nat → Prop} {e base : Nat} {v : Value} {xs : List α}
set_option maxHeartbeats 2000000 in
theorem sortN1 (L : SlLaysF.n6 P ρ) (L0 : SlLaysF0.n6 P ρ) (hd : d.sz = 1) {cf : α → α → Int} (hO : Ord3 Q cf) (f : Nat)
  (eg : ∀ args w, (callFunc f args).run P w = .ok (.enter f args) w) (hc : ∀ (W : World) (x y : α) (cx cy : Value), Q x → Q y → d.K W x [cx] → d.K W y [cy] → Calls P f #[cx, cy] W fun e w' => e = .returned (.int .i64 (cf x y)) ∧ ∃ q os', w' = grow (W.drewN q) os')
  (h : d.R e w base ok v xs) (hq : ∀ x ∈ xs, Q x) (hsz : xs.length < 4611686018427387904) :
  Calls P (ρ.f 6) #[v, .func (.func f) #[] #[]] w fun e' w' => e' = .returned (.tuple #[]) ∧ SortedTo d cf e w w' base ok v xs := by
 rcases Nat.eq_zero_or_pos xs.length with h0 | hp
 ·have hx : xs = [] := List.length_eq_zero_iff.1 h0
  subst hx
  obtain ⟨A, c, rfl⟩ := Kd.R_slice h
  exact (AnyF.slices_SortFunc_none L0 A c _ w).mono fun _ _ ⟨he, hw⟩ => ⟨he, by rw [hw]; exact sortedTo_nil h⟩
 ·obtain ⟨g, cap, cur, rfl, hg0, hb, hgl, hg, hn, hm, hcs, l, hl1, hl2⟩ := R_cells h hq hp
  have hll : l.length = xs.length := by rw [← hl1, List.length_map]
  haveI : Inhabited (Cel d Q w base (fun k => ok k ∧ k ≠ g)) := ⟨l[0]'(by omega)⟩
  obtain ⟨enc, one⟩ : ∃ enc : Cel d Q w base (fun k => ok k ∧ k ≠ g) → Value, ∀ z, z.c = [enc z] := ⟨fun z => z.c.headD .nilIface, fun z => by
   have hz := z.len
   rw [hd] at hz
   obtain ⟨u, hu⟩ := List.length_eq_one_iff.1 hz
   show z.c = [z.c.headD .nilIface]
   rw [hu]; rfl⟩
  have hfl : ∀ r : List (Cel d Q w base (fun k => ok k ∧ k ≠ g)), (r.map (·.c)).flatten = r.map enc := by
   intro r
   induction r with
   | nil => rfl
   | cons z r ih => rw [List.map_cons, List.map_cons, List.flatten_cons, ih, one z]; rfl
  have hput : ∀ (w' : World) (D : Array (Cel d Q w base (fun k => ok k ∧ k ≠ g))), putRow enc w' g 0 D = putRow id w' g 0 (D.map enc) := by
   intro w' D
   unfold putRow
   apply mapBlock_congr
   intro c e fr _
   unfold putCells
   apply Array.ext
   ·simp
   ·intro i h1 h2
    simp only [Array.getElem_mapIdx, Array.size_map, id]
    by_cases hi : 0 ≤ i ∧ i < 0 + D.size
    ·rw [if_pos hi, if_pos hi, getElem!_pos D _ (by omega), getElem!_pos (D.map _) _ (by simp; omega), Array.getElem_map]
    ·rw [if_neg hi, if_neg hi]
  have hsw : ∀ m (D : Array (Cel d Q w base (fun k => ok k ∧ k ≠ g))) os, sortWorld enc w g 0 m D os = grow (putRow id (Sort.ahead w m) g 0 (D.map enc)) os := by
   intro m D os
   unfold sortWorld
   rw [hput]
  have hcs' : xs.length ≤ cur.size := by rw [hcs, hd]; omega
  have hsame : ∀ m (D : Array (Cel d Q w base (fun k => ok k ∧ k ≠ g))) os, D.size = xs.length → ∀ k, k ≠ g → k < w.heap.size → (sortWorld enc w g 0 m D os).heap[k]? = w.heap[k]? := by
   intro m D os hD
   rw [hsw]
   exact (row_after hg (F := D.map enc) (by rw [Array.size_map, hD]; exact hcs') rfl).2.1
  have hH : Holds enc w g 0 l.toArray := by
   intro j hj
   have hj' : j < l.length := by simpa using hj
   refine ⟨?_, ?_⟩
   ·show w.cell? ⟨g, 0 + j, none⟩ = _
    rw [Nat.zero_add, getElem!_pos _ j hj]
    simp only [World.cell?, hg, Option.isSome_none, Bool.false_eq_true, if_false]
    rw [hd, Nat.mul_one, hfl] at hl2
    have h1 := congrArg (fun r => r[j]?) hl2
    simp only [List.getElem?_take, List.getElem?_map] at h1
    rw [if_pos (by omega), Array.getElem?_toList, List.getElem?_eq_getElem hj'] at h1
    rw [h1]
    rfl
   ·simp [World.frozen?, hg]
  have key := Any.slices_SortFunc L enc (fun z => z.one _ (by rw [one z]; exact List.mem_singleton.2 rfl)) (fun p q => cf p.x q.x) hO.swo f #[] g 0 cap l.toArray w eg
   (fun m os dk hs p q => by
    have hh : ∀ (z : Cel d Q w base (fun k => ok k ∧ k ≠ g)), d.K (sortWorld enc w g 0 m dk os) z.x [enc z] := fun z => by
     have h1 := d.K_of_M (z.move (W := sortWorld enc w g 0 m dk os) (fun k hk hlt => hsame m dk os (by rw [hs]; simpa using hll) k hk.2 hlt))
     rw [one z] at h1
     exact h1
    exact hc _ p.x q.x _ _ p.q q.q (hh p) (hh q)) hH hgl (by simpa [hll] using hsz)
  have hsz' : l.toArray.size = xs.length := by simp [hll]
  rw [hsz'] at key
  refine key.mono ?_
  rintro e' w' ⟨rfl, D', n, os, hp', hs', rfl⟩
  rw [← hsz'] at hp' hs'
  refine ⟨rfl, ?_⟩
  rw [hsw n D' os]
  exact sortedTo_of (D := l.toArray) (D' := D') (F := D'.map enc) (by simpa using hl1) hp' hs' (by rw [Array.toList_map, hfl]) rfl hg0 hb hgl hg hn hm hcs
end
section
variable {α : Type} {d : Kd α} {Q : α → Prop} {w W : World} {ok : Nat → Prop} {e base g cap : Nat} {v : Value} {xs : List α}
theorem Ord3.fst {cf : α → α → Int} (h : Ord3 Q cf) : Ord3 (fun p : α × Nat => Q p.1) (fun p q => cf p.1 q.1) where
 irr p hp := h.irr p.1 hp
 tr p q r hp hq hr := h.tr p.1 q.1 r.1 hp hq hr
 nt p q r hp hq hr := h.nt p.1 q.1 r.1 hp hq hr
end
section
variable {α β : Type}
def cptGo (eqf : α → α → Bool) : α → List α → List α
 | _, [] => []
 | p, y :: r => if eqf y p then cptGo eqf y r else y :: cptGo eqf y r
def cpt (eqf : α → α → Bool) : List α → List α
 | [] => []
 | x :: r => x :: cptGo eqf x r
theorem cptGo_snoc (eqf : α → α → Bool) (x : α) : ∀ (p : α) (l : List α), cptGo eqf p (l ++ [x]) = cptGo eqf p l ++ (if eqf x ((p :: l).getLast (by simp)) then [] else [x])
 | p, [] => by
  show (if eqf x p then [] else [x]) = [] ++ (if eqf x p then [] else [x])
  rw [List.nil_append]
 | p, y :: r => by
  have e : (p :: y :: r).getLast (by simp) = (y :: r).getLast (by simp) := List.getLast_cons (by simp)
  rw [e]
  simp only [List.cons_append, cptGo]
  rw [cptGo_snoc eqf x y r]
  split <;> simp
theorem cpt_snoc (eqf : α → α → Bool) (x : α) (l : List α) (h : l ≠ []) : cpt eqf (l ++ [x]) = cpt eqf l ++ (if eqf x (l.getLast h) then [] else [x]) := by
 cases l with
 | nil => exact absurd rfl h
 | cons y r => simp only [List.cons_append, cpt]; rw [cptGo_snoc]
variable [Inhabited α]
def keepsB (eqf : α → α → Bool) (d : Array α) (j : Nat) : Bool := j == 0 || !(eqf d[j]! d[j - 1]!)
theorem cpt_take (eqf : α → α → Bool) (d : Array α) (m : Nat) (h : m < d.size) : cpt eqf (d.toList.take (m + 1)) = cpt eqf (d.toList.take m) ++ (if keepsB eqf d m then [d[m]!] else []) := by
 have hl : m < d.toList.length := by simpa using h
 rw [List.take_add_one, List.getElem?_eq_getElem hl]
 have hm : d.toList[m] = d[m]! := by rw [getElem!_pos d m h]; simp
 rw [hm]
 rcases Nat.eq_zero_or_pos m with h0 | h0
 ·subst h0; simp [cpt, cptGo, keepsB]
 ·have hne : d.toList.take m ≠ [] := by
   intro e_
   have h1 := congrArg List.length e_
   have h2 : d.toList.length = d.size := by simp
   rw [List.length_take, h2] at h1
   have h3 : min m d.size = 0 := h1
   omega
  show cpt eqf (d.toList.take m ++ [d[m]!]) = _
  rw [cpt_snoc eqf _ _ hne]
  have hlast : (d.toList.take m).getLast hne = d[m - 1]! := by
   rw [List.getLast_eq_getElem]
   have h1 : (d.toList.take m).length - 1 = m - 1 := by rw [List.length_take]; simp; omega
   simp only [h1, List.getElem_take]
   rw [getElem!_pos d (m - 1) (by omega)]
   simp
  rw [hlast]
  have : (m == 0) = false := by simp; omega
  simp only [keepsB, this, Bool.false_or]
  cases eqf d[m]! d[m - 1]! <;> simp
structure CompB (eqf : α → α → Bool) (d : Array α) (m k : Nat) (dk : Array α) : Prop where
 size : dk.size = d.size
 len : (cpt eqf (d.toList.take m)).length = k
 le : k ≤ m
 low : ∀ j, j < k → (cpt eqf (d.toList.take m))[j]? = some dk[j]!
 high : ∀ j, k ≤ j → dk[j]! = d[j]!
variable {eqf : α → α → Bool} {d dk : Array α} {m k : Nat}
theorem CompB.one (h : 0 < d.size) : CompB eqf d 1 1 d := by
 have h0 : d.toList.take 1 = [d[0]!] := by
  have := List.take_add_one (l := d.toList) (i := 0)
  rw [List.getElem?_eq_getElem (by simpa using h)] at this
  rw [this, getElem!_pos d 0 h]; simp
 refine ⟨rfl, by rw [h0]; rfl, Nat.le_refl _, fun j hj => ?_, fun _ _ => rfl⟩
 obtain rfl : j = 0 := by omega
 rw [h0]; rfl
theorem CompB.skip (h : CompB eqf d m k dk) (hm : m < d.size) (hk : keepsB eqf d m = false) : CompB eqf d (m + 1) k dk where
 size := h.size
 len := by rw [cpt_take eqf d m hm, hk]; simpa using h.len
 le := by have := h.le; omega
 low := fun j hj => by rw [cpt_take eqf d m hm, hk]; simpa using h.low j hj
 high := h.high
theorem CompB.keep (h : CompB eqf d m k dk) (hm : m < d.size) (hk : keepsB eqf d m = true) : CompB eqf d (m + 1) (k + 1) (dk.setIfInBounds k d[m]!) where
 size := by simp [h.size]
 len := by rw [cpt_take eqf d m hm, hk]; simp [h.len]
 le := by have := h.le; omega
 low := fun j hj => by
  rw [cpt_take eqf d m hm, hk, if_pos rfl]
  by_cases e_ : j = k
  ·subst e_
   rw [List.getElem?_append_right (by rw [h.len]; exact Nat.le_refl _), h.len, Nat.sub_self, Go.Sort.getElem!_set_same dk j _ (by have := h.le; have := h.size; omega)]
   rfl
  ·rw [List.getElem?_append_left (by rw [h.len]; omega), h.low j (by omega), Go.Sort.getElem!_set_other dk k j _ e_]
 high := fun j hj => by rw [Go.Sort.getElem!_set_other dk k j _ (by omega), h.high j (by omega)]
theorem CompB.same (h : CompB eqf d m m d) (hm : m < d.size) (hk : keepsB eqf d m = true) : CompB eqf d (m + 1) (m + 1) d where
 size := rfl
 len := by rw [cpt_take eqf d m hm, hk]; simp [h.len]
 le := Nat.le_refl _
 low := fun j hj => by
  rw [cpt_take eqf d m hm, hk, if_pos rfl]
  by_cases e_ : j = m
  ·subst e_
   rw [List.getElem?_append_right (by rw [h.len]; exact Nat.le_refl _), h.len, Nat.sub_self]
   rfl
  ·rw [List.getElem?_append_left (by rw [h.len]; omega), h.low j (by omega)]
 high := fun _ _ => rfl
theorem CompB.done (h : CompB eqf d d.size k dk) : dk.toList.take k = cpt eqf d.toList ∧ k = (cpt eqf d.toList).length := by
 have ht : d.toList.take d.size = d.toList := by rw [List.take_of_length_le]; simp
 have hl := h.len
 have hlow := h.low
 rw [ht] at hl hlow
 refine ⟨?_, hl.symm⟩
 apply List.ext_getElem?
 intro j
 have hle := h.le
 have hsz := h.size
 by_cases hj : j < k
 ·rw [List.getElem?_take, if_pos hj, hlow j hj, Array.getElem?_toList, Array.getElem?_eq_getElem (by omega), getElem!_pos dk j (by omega)]
 ·rw [List.getElem?_eq_none (by simp; omega), List.getElem?_eq_none (by omega)]
end
section
variable {α : Type} {d : Kd α} {Q : α → Prop} {w W W' : World} {ok : Nat → Prop} {e base g cap : Nat} {v : Value} {xs : List α}
end
end Go.Proofs.Ytoijcallajegfaa.M
end
section
/- What the library's sort asks of this program: each by the kernel. No conditions. -/
namespace Go.Proofs
open Go.Shelf
def Try.sortA52_ren : Go.Shelf.Ren := ⟨fun | 6 => 52 | 15 => 104 | 14 => 103 | 28 => 147 | 29 => 148 | 20 => 139 | 21 => 140 | 22 => 141 | 23 => 142 | 24 => 143 | 25 => 144 | 26 => 145 | 27 => 146 | 46 => 178 | 47 => 179 | 48 => 180 | 49 => 181 | 50 => 182 | 57 => 192 | n => n, fun | 22 => 28 | 24 => 23 | 25 => 64 | 3 => 3 | 39 => 103 | 0 => 0 | 53 => 134 | 55 => 136 | 4 => 4 | 46 => 127 | 45 => 126 | 50 => 131 | 5 => 5 | 9 => 9 | 66 => 149 | 70 => 153 | 76 => 160 | 77 => 161 | n => n, fun | n => n⟩
theorem Try.sortA52 : Go.Proofs.SlLaysF.n6 Try.prog Try.sortA52_ren := {
 mixed := by kernel_rfl
 f6 := ⟨Try.f52.name, by decide, Try.func52.trans (congrArg some (by kernel_rfl))⟩
 f14 := ⟨Try.f103.name, by decide, Try.func103.trans (congrArg some (by kernel_rfl))⟩
 f15 := Try.func104.trans (congrArg some (by kernel_rfl))
 f20 := ⟨Try.f139.name, by decide, Try.func139.trans (congrArg some (by kernel_rfl))⟩
 f21 := ⟨Try.f140.name, by decide, Try.func140.trans (congrArg some (by kernel_rfl))⟩
 f22 := ⟨Try.f141.name, by decide, Try.func141.trans (congrArg some (by kernel_rfl))⟩
 f23 := ⟨Try.f142.name, by decide, Try.func142.trans (congrArg some (by kernel_rfl))⟩
 f24 := ⟨Try.f143.name, by decide, Try.func143.trans (congrArg some (by kernel_rfl))⟩
 f25 := ⟨Try.f144.name, by decide, Try.func144.trans (congrArg some (by kernel_rfl))⟩
 f26 := ⟨Try.f145.name, by decide, Try.func145.trans (congrArg some (by kernel_rfl))⟩
 f27 := ⟨Try.f146.name, by decide, Try.func146.trans (congrArg some (by kernel_rfl))⟩
 f28 := Try.func147.trans (congrArg some (by kernel_rfl))
 f29 := Try.func148.trans (congrArg some (by kernel_rfl))
 f46 := ⟨Try.f178.name, by decide, Try.func178.trans (congrArg some (by kernel_rfl))⟩
 f47 := Try.func179.trans (congrArg some (by kernel_rfl))
 f48 := Try.func180.trans (congrArg some (by kernel_rfl))
 f49 := ⟨Try.f181.name, by decide, Try.func181.trans (congrArg some (by kernel_rfl))⟩
 f50 := ⟨Try.f182.name, by decide, Try.func182.trans (congrArg some (by kernel_rfl))⟩
 f57 := ⟨Try.f192.name, by decide, Try.func192.trans (congrArg some (by kernel_rfl))⟩
 t0 := Try.underlying0
 a0 := Try.isAgg0
 z0 := Try.sizeOf0
 v0 := Try.zeroValue0
 t3 := Try.underlying3
 a3 := Try.isAgg3
 z3 := Try.sizeOf3
 v3 := Try.zeroValue3
 t4 := Try.underlying4
 a4 := Try.isAgg4
 z4 := Try.sizeOf4
 v4 := Try.zeroValue4
 t5 := Try.underlying5
 a5 := Try.isAgg5
 z5 := Try.sizeOf5
 v5 := Try.zeroValue5
 t9 := Try.underlying9
 a9 := Try.isAgg9
 z9 := Try.sizeOf9
 v9 := Try.zeroValue9
 t22 := Try.underlying28
 a22 := Try.isAgg28
 z22 := Try.sizeOf28
 v22 := Try.zeroValue28
 a24 := Try.isAgg23
 z24 := Try.sizeOf23
 t25 := Try.underlying64
 a25 := Try.isAgg64
 z25 := Try.sizeOf64
 v25 := Try.zeroValue64
 t39 := Try.underlying103
 a39 := Try.isAgg103
 z39 := Try.sizeOf103
 v39 := Try.zeroValue103
 t45 := Try.underlying126
 a45 := Try.isAgg126
 z45 := Try.sizeOf126
 v45 := Try.zeroValue126
 t46 := Try.underlying127
 a46 := Try.isAgg127
 z46 := Try.sizeOf127
 v46 := Try.zeroValue127
 t50 := Try.underlying131
 a50 := Try.isAgg131
 z50 := Try.sizeOf131
 v50 := Try.zeroValue131
 t53 := Try.underlying134
 a53 := Try.isAgg134
 z53 := Try.sizeOf134
 v53 := Try.zeroValue134
 t55 := Try.underlying136
 a55 := Try.isAgg136
 z55 := Try.sizeOf136
 v55 := Try.zeroValue136
 t66 := Try.underlying149
 a66 := Try.isAgg149
 z66 := Try.sizeOf149
 v66 := Try.zeroValue149
 t70 := Try.underlying153
 a70 := Try.isAgg153
 z70 := Try.sizeOf153
 v70 := Try.zeroValue153
 t76 := Try.underlying160
 a76 := Try.isAgg160
 z76 := Try.sizeOf160
 v76 := Try.zeroValue160
 t77 := Try.underlying161
 a77 := Try.isAgg161
 z77 := Try.sizeOf161
 v77 := Try.zeroValue161 }
def Try.sortB52_ren : Go.Shelf.Ren := ⟨fun | 6 => 52 | 15 => 104 | 14 => 103 | 28 => 147 | 29 => 148 | 20 => 139 | 21 => 140 | 22 => 141 | 23 => 142 | 24 => 143 | 25 => 144 | 26 => 145 | 27 => 146 | 46 => 178 | 47 => 179 | 48 => 180 | 49 => 181 | 50 => 182 | 57 => 192 | n => n, fun | 22 => 28 | 24 => 23 | 25 => 64 | 3 => 3 | 39 => 103 | 0 => 0 | 53 => 134 | 55 => 136 | 4 => 4 | 46 => 127 | 45 => 126 | 50 => 131 | 5 => 5 | 9 => 9 | 66 => 149 | 70 => 153 | 76 => 160 | 77 => 161 | n => n, fun | n => n⟩
theorem Try.sortB52 : Go.Proofs.SlLaysF0.n6 Try.prog Try.sortB52_ren := {
 mixed := by kernel_rfl
 f6 := ⟨Try.f52.name, by decide, Try.func52.trans (congrArg some (by kernel_rfl))⟩
 f14 := ⟨Try.f103.name, by decide, Try.func103.trans (congrArg some (by kernel_rfl))⟩
 f15 := Try.func104.trans (congrArg some (by kernel_rfl))
 f20 := ⟨Try.f139.name, by decide, Try.func139.trans (congrArg some (by kernel_rfl))⟩
 f21 := ⟨Try.f140.name, by decide, Try.func140.trans (congrArg some (by kernel_rfl))⟩
 f22 := ⟨Try.f141.name, by decide, Try.func141.trans (congrArg some (by kernel_rfl))⟩
 f23 := ⟨Try.f142.name, by decide, Try.func142.trans (congrArg some (by kernel_rfl))⟩
 f24 := ⟨Try.f143.name, by decide, Try.func143.trans (congrArg some (by kernel_rfl))⟩
 f25 := ⟨Try.f144.name, by decide, Try.func144.trans (congrArg some (by kernel_rfl))⟩
 f26 := ⟨Try.f145.name, by decide, Try.func145.trans (congrArg some (by kernel_rfl))⟩
 f27 := ⟨Try.f146.name, by decide, Try.func146.trans (congrArg some (by kernel_rfl))⟩
 f28 := Try.func147.trans (congrArg some (by kernel_rfl))
 f29 := Try.func148.trans (congrArg some (by kernel_rfl))
 f46 := ⟨Try.f178.name, by decide, Try.func178.trans (congrArg some (by kernel_rfl))⟩
 f47 := Try.func179.trans (congrArg some (by kernel_rfl))
 f48 := Try.func180.trans (congrArg some (by kernel_rfl))
 f49 := ⟨Try.f181.name, by decide, Try.func181.trans (congrArg some (by kernel_rfl))⟩
 f50 := ⟨Try.f182.name, by decide, Try.func182.trans (congrArg some (by kernel_rfl))⟩
 f57 := ⟨Try.f192.name, by decide, Try.func192.trans (congrArg some (by kernel_rfl))⟩
 t0 := Try.underlying0
 a0 := Try.isAgg0
 z0 := Try.sizeOf0
 v0 := Try.zeroValue0
 t3 := Try.underlying3
 a3 := Try.isAgg3
 z3 := Try.sizeOf3
 v3 := Try.zeroValue3
 t4 := Try.underlying4
 a4 := Try.isAgg4
 z4 := Try.sizeOf4
 v4 := Try.zeroValue4
 t5 := Try.underlying5
 a5 := Try.isAgg5
 z5 := Try.sizeOf5
 v5 := Try.zeroValue5
 t9 := Try.underlying9
 a9 := Try.isAgg9
 z9 := Try.sizeOf9
 v9 := Try.zeroValue9
 t22 := Try.underlying28
 a22 := Try.isAgg28
 z22 := Try.sizeOf28
 v22 := Try.zeroValue28
 t25 := Try.underlying64
 a25 := Try.isAgg64
 z25 := Try.sizeOf64
 v25 := Try.zeroValue64
 t39 := Try.underlying103
 a39 := Try.isAgg103
 z39 := Try.sizeOf103
 v39 := Try.zeroValue103
 t45 := Try.underlying126
 a45 := Try.isAgg126
 z45 := Try.sizeOf126
 v45 := Try.zeroValue126
 t46 := Try.underlying127
 a46 := Try.isAgg127
 z46 := Try.sizeOf127
 v46 := Try.zeroValue127
 t50 := Try.underlying131
 a50 := Try.isAgg131
 z50 := Try.sizeOf131
 v50 := Try.zeroValue131
 t53 := Try.underlying134
 a53 := Try.isAgg134
 z53 := Try.sizeOf134
 v53 := Try.zeroValue134
 t55 := Try.underlying136
 a55 := Try.isAgg136
 z55 := Try.sizeOf136
 v55 := Try.zeroValue136
 t66 := Try.underlying149
 a66 := Try.isAgg149
 z66 := Try.sizeOf149
 v66 := Try.zeroValue149
 t70 := Try.underlying153
 a70 := Try.isAgg153
 z70 := Try.sizeOf153
 v70 := Try.zeroValue153
 t76 := Try.underlying160
 a76 := Try.isAgg160
 z76 := Try.sizeOf160
 v76 := Try.zeroValue160
 t77 := Try.underlying161
 a77 := Try.isAgg161
 z77 := Try.sizeOf161
 v77 := Try.zeroValue161 }
def Try.sortA73_ren : Go.Shelf.Ren := ⟨fun | 6 => 73 | 15 => 104 | 14 => 121 | 28 => 147 | 29 => 148 | 20 => 153 | 21 => 154 | 22 => 155 | 23 => 156 | 24 => 157 | 25 => 158 | 26 => 159 | 27 => 160 | 46 => 184 | 47 => 179 | 48 => 180 | 49 => 185 | 50 => 186 | 57 => 193 | n => n, fun | 22 => 23 | 24 => 3 | 25 => 79 | 3 => 3 | 39 => 103 | 0 => 0 | 53 => 134 | 55 => 136 | 4 => 4 | 46 => 127 | 45 => 126 | 50 => 131 | 5 => 5 | 9 => 9 | 66 => 149 | 70 => 153 | 76 => 160 | 77 => 161 | n => n, fun | n => n⟩
theorem Try.sortA73 : Go.Proofs.SlLaysF.n6 Try.prog Try.sortA73_ren := {
 mixed := by kernel_rfl
 f6 := ⟨Try.f73.name, by decide, Try.func73.trans (congrArg some (by kernel_rfl))⟩
 f14 := ⟨Try.f121.name, by decide, Try.func121.trans (congrArg some (by kernel_rfl))⟩
 f15 := Try.func104.trans (congrArg some (by kernel_rfl))
 f20 := ⟨Try.f153.name, by decide, Try.func153.trans (congrArg some (by kernel_rfl))⟩
 f21 := ⟨Try.f154.name, by decide, Try.func154.trans (congrArg some (by kernel_rfl))⟩
 f22 := ⟨Try.f155.name, by decide, Try.func155.trans (congrArg some (by kernel_rfl))⟩
 f23 := ⟨Try.f156.name, by decide, Try.func156.trans (congrArg some (by kernel_rfl))⟩
 f24 := ⟨Try.f157.name, by decide, Try.func157.trans (congrArg some (by kernel_rfl))⟩
 f25 := ⟨Try.f158.name, by decide, Try.func158.trans (congrArg some (by kernel_rfl))⟩
 f26 := ⟨Try.f159.name, by decide, Try.func159.trans (congrArg some (by kernel_rfl))⟩
 f27 := ⟨Try.f160.name, by decide, Try.func160.trans (congrArg some (by kernel_rfl))⟩
 f28 := Try.func147.trans (congrArg some (by kernel_rfl))
 f29 := Try.func148.trans (congrArg some (by kernel_rfl))
 f46 := ⟨Try.f184.name, by decide, Try.func184.trans (congrArg some (by kernel_rfl))⟩
 f47 := Try.func179.trans (congrArg some (by kernel_rfl))
 f48 := Try.func180.trans (congrArg some (by kernel_rfl))
 f49 := ⟨Try.f185.name, by decide, Try.func185.trans (congrArg some (by kernel_rfl))⟩
 f50 := ⟨Try.f186.name, by decide, Try.func186.trans (congrArg some (by kernel_rfl))⟩
 f57 := ⟨Try.f193.name, by decide, Try.func193.trans (congrArg some (by kernel_rfl))⟩
 t0 := Try.underlying0
 a0 := Try.isAgg0
 z0 := Try.sizeOf0
 v0 := Try.zeroValue0
 t3 := Try.underlying3
 a3 := Try.isAgg3
 z3 := Try.sizeOf3
 v3 := Try.zeroValue3
 t4 := Try.underlying4
 a4 := Try.isAgg4
 z4 := Try.sizeOf4
 v4 := Try.zeroValue4
 t5 := Try.underlying5
 a5 := Try.isAgg5
 z5 := Try.sizeOf5
 v5 := Try.zeroValue5
 t9 := Try.underlying9
 a9 := Try.isAgg9
 z9 := Try.sizeOf9
 v9 := Try.zeroValue9
 t22 := Try.underlying23
 a22 := Try.isAgg23
 z22 := Try.sizeOf23
 v22 := Try.zeroValue23
 a24 := Try.isAgg3
 z24 := Try.sizeOf3
 t25 := Try.underlying79
 a25 := Try.isAgg79
 z25 := Try.sizeOf79
 v25 := Try.zeroValue79
 t39 := Try.underlying103
 a39 := Try.isAgg103
 z39 := Try.sizeOf103
 v39 := Try.zeroValue103
 t45 := Try.underlying126
 a45 := Try.isAgg126
 z45 := Try.sizeOf126
 v45 := Try.zeroValue126
 t46 := Try.underlying127
 a46 := Try.isAgg127
 z46 := Try.sizeOf127
 v46 := Try.zeroValue127
 t50 := Try.underlying131
 a50 := Try.isAgg131
 z50 := Try.sizeOf131
 v50 := Try.zeroValue131
 t53 := Try.underlying134
 a53 := Try.isAgg134
 z53 := Try.sizeOf134
 v53 := Try.zeroValue134
 t55 := Try.underlying136
 a55 := Try.isAgg136
 z55 := Try.sizeOf136
 v55 := Try.zeroValue136
 t66 := Try.underlying149
 a66 := Try.isAgg149
 z66 := Try.sizeOf149
 v66 := Try.zeroValue149
 t70 := Try.underlying153
 a70 := Try.isAgg153
 z70 := Try.sizeOf153
 v70 := Try.zeroValue153
 t76 := Try.underlying160
 a76 := Try.isAgg160
 z76 := Try.sizeOf160
 v76 := Try.zeroValue160
 t77 := Try.underlying161
 a77 := Try.isAgg161
 z77 := Try.sizeOf161
 v77 := Try.zeroValue161 }
def Try.sortB73_ren : Go.Shelf.Ren := ⟨fun | 6 => 73 | 15 => 104 | 14 => 121 | 28 => 147 | 29 => 148 | 20 => 153 | 21 => 154 | 22 => 155 | 23 => 156 | 24 => 157 | 25 => 158 | 26 => 159 | 27 => 160 | 46 => 184 | 47 => 179 | 48 => 180 | 49 => 185 | 50 => 186 | 57 => 193 | n => n, fun | 22 => 23 | 24 => 3 | 25 => 79 | 3 => 3 | 39 => 103 | 0 => 0 | 53 => 134 | 55 => 136 | 4 => 4 | 46 => 127 | 45 => 126 | 50 => 131 | 5 => 5 | 9 => 9 | 66 => 149 | 70 => 153 | 76 => 160 | 77 => 161 | n => n, fun | n => n⟩
theorem Try.sortB73 : Go.Proofs.SlLaysF0.n6 Try.prog Try.sortB73_ren := {
 mixed := by kernel_rfl
 f6 := ⟨Try.f73.name, by decide, Try.func73.trans (congrArg some (by kernel_rfl))⟩
 f14 := ⟨Try.f121.name, by decide, Try.func121.trans (congrArg some (by kernel_rfl))⟩
 f15 := Try.func104.trans (congrArg some (by kernel_rfl))
 f20 := ⟨Try.f153.name, by decide, Try.func153.trans (congrArg some (by kernel_rfl))⟩
 f21 := ⟨Try.f154.name, by decide, Try.func154.trans (congrArg some (by kernel_rfl))⟩
 f22 := ⟨Try.f155.name, by decide, Try.func155.trans (congrArg some (by kernel_rfl))⟩
 f23 := ⟨Try.f156.name, by decide, Try.func156.trans (congrArg some (by kernel_rfl))⟩
 f24 := ⟨Try.f157.name, by decide, Try.func157.trans (congrArg some (by kernel_rfl))⟩
 f25 := ⟨Try.f158.name, by decide, Try.func158.trans (congrArg some (by kernel_rfl))⟩
 f26 := ⟨Try.f159.name, by decide, Try.func159.trans (congrArg some (by kernel_rfl))⟩
 f27 := ⟨Try.f160.name, by decide, Try.func160.trans (congrArg some (by kernel_rfl))⟩
 f28 := Try.func147.trans (congrArg some (by kernel_rfl))
 f29 := Try.func148.trans (congrArg some (by kernel_rfl))
 f46 := ⟨Try.f184.name, by decide, Try.func184.trans (congrArg some (by kernel_rfl))⟩
 f47 := Try.func179.trans (congrArg some (by kernel_rfl))
 f48 := Try.func180.trans (congrArg some (by kernel_rfl))
 f49 := ⟨Try.f185.name, by decide, Try.func185.trans (congrArg some (by kernel_rfl))⟩
 f50 := ⟨Try.f186.name, by decide, Try.func186.trans (congrArg some (by kernel_rfl))⟩
 f57 := ⟨Try.f193.name, by decide, Try.func193.trans (congrArg some (by kernel_rfl))⟩
 t0 := Try.underlying0
 a0 := Try.isAgg0
 z0 := Try.sizeOf0
 v0 := Try.zeroValue0
 t3 := Try.underlying3
 a3 := Try.isAgg3
 z3 := Try.sizeOf3
 v3 := Try.zeroValue3
 t4 := Try.underlying4
 a4 := Try.isAgg4
 z4 := Try.sizeOf4
 v4 := Try.zeroValue4
 t5 := Try.underlying5
 a5 := Try.isAgg5
 z5 := Try.sizeOf5
 v5 := Try.zeroValue5
 t9 := Try.underlying9
 a9 := Try.isAgg9
 z9 := Try.sizeOf9
 v9 := Try.zeroValue9
 t22 := Try.underlying23
 a22 := Try.isAgg23
 z22 := Try.sizeOf23
 v22 := Try.zeroValue23
 t25 := Try.underlying79
 a25 := Try.isAgg79
 z25 := Try.sizeOf79
 v25 := Try.zeroValue79
 t39 := Try.underlying103
 a39 := Try.isAgg103
 z39 := Try.sizeOf103
 v39 := Try.zeroValue103
 t45 := Try.underlying126
 a45 := Try.isAgg126
 z45 := Try.sizeOf126
 v45 := Try.zeroValue126
 t46 := Try.underlying127
 a46 := Try.isAgg127
 z46 := Try.sizeOf127
 v46 := Try.zeroValue127
 t50 := Try.underlying131
 a50 := Try.isAgg131
 z50 := Try.sizeOf131
 v50 := Try.zeroValue131
 t53 := Try.underlying134
 a53 := Try.isAgg134
 z53 := Try.sizeOf134
 v53 := Try.zeroValue134
 t55 := Try.underlying136
 a55 := Try.isAgg136
 z55 := Try.sizeOf136
 v55 := Try.zeroValue136
 t66 := Try.underlying149
 a66 := Try.isAgg149
 z66 := Try.sizeOf149
 v66 := Try.zeroValue149
 t70 := Try.underlying153
 a70 := Try.isAgg153
 z70 := Try.sizeOf153
 v70 := Try.zeroValue153
 t76 := Try.underlying160
 a76 := Try.isAgg160
 z76 := Try.sizeOf160
 v76 := Try.zeroValue160
 t77 := Try.underlying161
 a77 := Try.isAgg161
 z77 := Try.sizeOf161
 v77 := Try.zeroValue161 }
def Try.sortB101_ren : Go.Shelf.Ren := ⟨fun | 6 => 101 | 15 => 104 | 14 => 138 | 28 => 147 | 29 => 148 | 20 => 170 | 21 => 171 | 22 => 172 | 23 => 173 | 24 => 174 | 25 => 175 | 26 => 176 | 27 => 177 | 46 => 189 | 47 => 179 | 48 => 180 | 49 => 190 | 50 => 191 | 57 => 197 | n => n, fun | 22 => 25 | 24 => 33 | 25 => 69 | 3 => 3 | 39 => 103 | 0 => 0 | 53 => 134 | 55 => 136 | 4 => 4 | 46 => 127 | 45 => 126 | 50 => 131 | 5 => 5 | 9 => 9 | 66 => 149 | 70 => 153 | 76 => 160 | 77 => 161 | n => n, fun | n => n⟩
theorem Try.sortB101 : Go.Proofs.SlLaysF0.n6 Try.prog Try.sortB101_ren := {
 mixed := by kernel_rfl
 f6 := ⟨Try.f101.name, by decide, Try.func101.trans (congrArg some (by kernel_rfl))⟩
 f14 := ⟨Try.f138.name, by decide, Try.func138.trans (congrArg some (by kernel_rfl))⟩
 f15 := Try.func104.trans (congrArg some (by kernel_rfl))
 f20 := ⟨Try.f170.name, by decide, Try.func170.trans (congrArg some (by kernel_rfl))⟩
 f21 := ⟨Try.f171.name, by decide, Try.func171.trans (congrArg some (by kernel_rfl))⟩
 f22 := ⟨Try.f172.name, by decide, Try.func172.trans (congrArg some (by kernel_rfl))⟩
 f23 := ⟨Try.f173.name, by decide, Try.func173.trans (congrArg some (by kernel_rfl))⟩
 f24 := ⟨Try.f174.name, by decide, Try.func174.trans (congrArg some (by kernel_rfl))⟩
 f25 := ⟨Try.f175.name, by decide, Try.func175.trans (congrArg some (by kernel_rfl))⟩
 f26 := ⟨Try.f176.name, by decide, Try.func176.trans (congrArg some (by kernel_rfl))⟩
 f27 := ⟨Try.f177.name, by decide, Try.func177.trans (congrArg some (by kernel_rfl))⟩
 f28 := Try.func147.trans (congrArg some (by kernel_rfl))
 f29 := Try.func148.trans (congrArg some (by kernel_rfl))
 f46 := ⟨Try.f189.name, by decide, Try.func189.trans (congrArg some (by kernel_rfl))⟩
 f47 := Try.func179.trans (congrArg some (by kernel_rfl))
 f48 := Try.func180.trans (congrArg some (by kernel_rfl))
 f49 := ⟨Try.f190.name, by decide, Try.func190.trans (congrArg some (by kernel_rfl))⟩
 f50 := ⟨Try.f191.name, by decide, Try.func191.trans (congrArg some (by kernel_rfl))⟩
 f57 := ⟨Try.f197.name, by decide, Try.func197.trans (congrArg some (by kernel_rfl))⟩
 t0 := Try.underlying0
 a0 := Try.isAgg0
 z0 := Try.sizeOf0
 v0 := Try.zeroValue0
 t3 := Try.underlying3
 a3 := Try.isAgg3
 z3 := Try.sizeOf3
 v3 := Try.zeroValue3
 t4 := Try.underlying4
 a4 := Try.isAgg4
 z4 := Try.sizeOf4
 v4 := Try.zeroValue4
 t5 := Try.underlying5
 a5 := Try.isAgg5
 z5 := Try.sizeOf5
 v5 := Try.zeroValue5
 t9 := Try.underlying9
 a9 := Try.isAgg9
 z9 := Try.sizeOf9
 v9 := Try.zeroValue9
 t22 := Try.underlying25
 a22 := Try.isAgg25
 z22 := Try.sizeOf25
 v22 := Try.zeroValue25
 t25 := Try.underlying69
 a25 := Try.isAgg69
 z25 := Try.sizeOf69
 v25 := Try.zeroValue69
 t39 := Try.underlying103
 a39 := Try.isAgg103
 z39 := Try.sizeOf103
 v39 := Try.zeroValue103
 t45 := Try.underlying126
 a45 := Try.isAgg126
 z45 := Try.sizeOf126
 v45 := Try.zeroValue126
 t46 := Try.underlying127
 a46 := Try.isAgg127
 z46 := Try.sizeOf127
 v46 := Try.zeroValue127
 t50 := Try.underlying131
 a50 := Try.isAgg131
 z50 := Try.sizeOf131
 v50 := Try.zeroValue131
 t53 := Try.underlying134
 a53 := Try.isAgg134
 z53 := Try.sizeOf134
 v53 := Try.zeroValue134
 t55 := Try.underlying136
 a55 := Try.isAgg136
 z55 := Try.sizeOf136
 v55 := Try.zeroValue136
 t66 := Try.underlying149
 a66 := Try.isAgg149
 z66 := Try.sizeOf149
 v66 := Try.zeroValue149
 t70 := Try.underlying153
 a70 := Try.isAgg153
 z70 := Try.sizeOf153
 v70 := Try.zeroValue153
 t76 := Try.underlying160
 a76 := Try.isAgg160
 z76 := Try.sizeOf160
 v76 := Try.zeroValue160
 t77 := Try.underlying161
 a77 := Try.isAgg161
 z77 := Try.sizeOf161
 v77 := Try.zeroValue161 }
end Go.Proofs
end
section
/- Plain mathematics: permutations as lists of numbers. No conditions. -/
namespace Go.Proofs.Ytoijcallajegfaa.M
set_option linter.unusedVariables false
set_option linter.unusedSimpArgs false
def I (l : List Nat) : List Int := l.map Int.ofNat
def g (p : List Nat) (i : Nat) : Nat := p.getD i 0
def tab (n : Nat) (f : Nat → Nat) : List Nat := (List.range n).map f
theorem I_len (l : List Nat) : (I l).length = l.length := by simp [I]
theorem I_inj {a b : List Nat} (h : I a = I b) : a = b := by
 unfold I at h
 exact (List.map_inj_right (fun x y hxy => Int.ofNat.inj hxy)).mp h
theorem tab_len (n : Nat) (f : Nat → Nat) : (tab n f).length = n := by simp [tab]
theorem g_tab {n : Nat} {f : Nat → Nat} {i : Nat} (h : i < n) : g (tab n f) i = f i := by simp [g, tab, List.getD_eq_getElem?_getD, h]
theorem g_get {p : List Nat} {i : Nat} (h : i < p.length) : g p i = p[i] := by simp [g, List.getD_eq_getElem?_getD, h]
theorem g_mem {p : List Nat} {i : Nat} (h : i < p.length) : g p i ∈ p := by rw [g_get h]; exact List.getElem_mem h
theorem mem_g {p : List Nat} {x : Nat} (h : x ∈ p) : ∃ i, i < p.length ∧ g p i = x := by
 obtain ⟨i, hi, rfl⟩ := List.mem_iff_getElem.mp h
 exact ⟨i, hi, g_get hi⟩
theorem ext_g {a b : List Nat} (hl : a.length = b.length) (h : ∀ i, i < a.length → g a i = g b i) : a = b := by
 apply List.ext_getElem hl
 intro i h1 h2
 rw [← g_get h1, ← g_get h2]
 exact h i h1
theorem eq_tab {l : List Nat} {n : Nat} {f : Nat → Nat} (hl : l.length = n) (h : ∀ i, i < n → g l i = f i) : l = tab n f :=
 ext_g (by rw [tab_len, hl]) (fun i hi => by rw [hl] at hi; rw [g_tab hi, h i hi])
theorem g_set {p : List Nat} {i x j : Nat} (h : i < p.length) : g (p.set i x) j = if i = j then x else g p j := by
 unfold g
 rw [List.getD_eq_getElem?_getD, List.getD_eq_getElem?_getD, List.getElem?_set]
 by_cases e : i = j
 ·subst e
  simp [h]
 ·simp [e]
theorem I_set (p : List Nat) (i x : Nat) : (I p).set i (x : Int) = I (p.set i x) := by simp [I, List.map_set]
theorem I_snoc (p : List Nat) (x : Nat) : I p ++ [(x : Int)] = I (p ++ [x]) := by simp [I]
theorem I_rep (n x : Nat) : I (List.replicate n x) = List.replicate n (x : Int) := by simp [I]
structure IsP (p : List Nat) : Prop where
 lt : ∀ x ∈ p, x < p.length
 nd : p.Nodup
instance (p : List Nat) : Decidable (IsP p) := decidable_of_iff ((∀ x ∈ p, x < p.length) ∧ p.Nodup) ⟨fun h => ⟨h.1, h.2⟩, fun h => ⟨h.lt, h.nd⟩⟩
theorem nodup_le (n : Nat) : ∀ l : List Nat, l.Nodup → (∀ x ∈ l, x < n) → l.length ≤ n := by
 induction n with
 | zero =>
  intro l _ h
  cases l with
  | nil => simp
  | cons a l => exact absurd (h a (by simp)) (by omega)
 | succ n ih =>
  intro l hn h
  have h1 := ih (l.erase n) (hn.erase n) (fun x hx => by
   have h2 := (List.Nodup.mem_erase_iff hn).mp hx
   have h3 := h x h2.2
   have h4 := h2.1
   omega)
  have h5 := @List.length_erase _ _ _ n l
  split at h5 <;> omega
theorem mem_all {p : List Nat} (hp : IsP p) {x : Nat} (h : x < p.length) : x ∈ p := by
 apply Classical.byContradiction
 intro hx
 have := nodup_le p.length (x :: p) (List.nodup_cons.mpr ⟨hx, hp.nd⟩) (fun y hy => by
  rcases List.mem_cons.mp hy with rfl | hy
  ·exact h
  ·exact hp.lt y hy)
 simp at this
 omega
theorem g_lt {p : List Nat} (hp : IsP p) {i : Nat} (h : i < p.length) : g p i < p.length := hp.lt _ (g_mem h)
theorem g_inj {p : List Nat} (hp : IsP p) {i j : Nat} (hi : i < p.length) (hj : j < p.length) (h : g p i = g p j) : i = j := by
 rw [g_get hi, g_get hj] at h
 have hw := List.pairwise_iff_getElem.mp hp.nd
 rcases Nat.lt_trichotomy i j with hij | hij | hij
 ·exact absurd h (hw i j hi hj hij)
 ·exact hij
 ·exact absurd h.symm (hw j i hj hi hij)
def ix (p : List Nat) (x : Nat) : Nat := p.idxOf x
theorem ix_lt {p : List Nat} (hp : IsP p) {x : Nat} (h : x < p.length) : ix p x < p.length := List.idxOf_lt_length_of_mem (mem_all hp h)
theorem g_ix {p : List Nat} (hp : IsP p) {x : Nat} (h : x < p.length) : g p (ix p x) = x := by
 rw [g_get (ix_lt hp h)]
 exact List.getElem_idxOf (ix_lt hp h)
theorem ix_g {p : List Nat} (hp : IsP p) {i : Nat} (h : i < p.length) : ix p (g p i) = i :=
 g_inj hp (ix_lt hp (g_lt hp h)) h (g_ix hp (g_lt hp h))
theorem ix_eq {p : List Nat} (hp : IsP p) {i x : Nat} (h : i < p.length) (e : g p i = x) : ix p x = i := by rw [← e]; exact ix_g hp h
theorem isP_mk {p : List Nat} (h1 : ∀ i, i < p.length → g p i < p.length) (h2 : ∀ i j, i < p.length → j < p.length → g p i = g p j → i = j) : IsP p := by
 refine ⟨fun x hx => ?_, ?_⟩
 ·obtain ⟨i, hi, rfl⟩ := mem_g hx
  exact h1 i hi
 ·refine List.pairwise_iff_getElem.mpr ?_
  intro i j hi hj hij e'
  rw [← g_get hi, ← g_get hj] at e'
  have := h2 i j hi hj e'
  omega
theorem isP_tab {n : Nat} {f : Nat → Nat} (h1 : ∀ i, i < n → f i < n) (h2 : ∀ i j, i < n → j < n → f i = f j → i = j) : IsP (tab n f) := by
 refine isP_mk (fun i hi => ?_) (fun i j hi hj e => ?_)
 ·rw [tab_len] at hi ⊢; rw [g_tab hi]; exact h1 i hi
 ·rw [tab_len] at hi hj; rw [g_tab hi, g_tab hj] at e; exact h2 i j hi hj e
def inv (p : List Nat) : List Nat := tab p.length (ix p)
theorem inv_len (p : List Nat) : (inv p).length = p.length := tab_len _ _
theorem g_inv {p : List Nat} {i : Nat} (h : i < p.length) : g (inv p) i = ix p i := g_tab h
theorem isP_inv {p : List Nat} (hp : IsP p) : IsP (inv p) := isP_tab (fun i hi => ix_lt hp hi) (fun i j hi hj e => by rw [← g_ix hp hi, ← g_ix hp hj, e])
theorem ix_inv {p : List Nat} (hp : IsP p) {i : Nat} (h : i < p.length) : ix (inv p) i = g p i :=
 ix_eq (isP_inv hp) (by rw [inv_len]; exact g_lt hp h) (by rw [g_inv (g_lt hp h)]; exact ix_g hp h)
theorem inv_inv {p : List Nat} (hp : IsP p) : inv (inv p) = p :=
 (eq_tab (by rw [inv_len]) (fun i hi => by rw [inv_len] at hi; rw [ix_inv hp hi])).symm
def thn (p q : List Nat) : List Nat := tab p.length (fun i => g q (g p i))
theorem thn_len (p q : List Nat) : (thn p q).length = p.length := tab_len _ _
theorem g_thn {p q : List Nat} {i : Nat} (h : i < p.length) : g (thn p q) i = g q (g p i) := g_tab h
theorem isP_thn {p q : List Nat} (hp : IsP p) (hq : IsP q) (hl : p.length = q.length) : IsP (thn p q) :=
 isP_tab (fun i hi => by have h1 := g_lt hp hi; have h2 := g_lt hq (i := g p i) (by omega); omega)
  (fun i j hi hj e => g_inj hp hi hj (g_inj hq (by have := g_lt hp hi; omega) (by have := g_lt hp hj; omega) e))
def ren (p names : List Nat) : List Nat := tab p.length (fun j => g names (g p (ix names j)))
theorem ren_len (p names : List Nat) : (ren p names).length = p.length := tab_len _ _
theorem g_ren {p names : List Nat} {j : Nat} (h : j < p.length) : g (ren p names) j = g names (g p (ix names j)) := g_tab h
end Go.Proofs.Ytoijcallajegfaa.M
end
section
/- Plain mathematics: going round a permutation. No conditions. -/
namespace Go.Proofs.Ytoijcallajegfaa.M
set_option linter.unusedVariables false
set_option linter.unusedSimpArgs false
def itr (p : List Nat) : Nat → Nat → Nat
 | 0, s => s
 | m + 1, s => g p (itr p m s)
theorem itr_lt {p : List Nat} (hp : IsP p) (m : Nat) {s : Nat} (hs : s < p.length) : itr p m s < p.length := by
 induction m with
 | zero => exact hs
 | succ m ih => exact g_lt hp ih
theorem itr_add (p : List Nat) (a b s : Nat) : itr p (a + b) s = itr p a (itr p b s) := by
 induction a with
 | zero => simp [itr]
 | succ a ih =>
  have e : a + 1 + b = (a + b) + 1 := by omega
  rw [e, itr, itr, ih]
theorem itr_back {p : List Nat} (hp : IsP p) {s : Nat} (hs : s < p.length) (i d : Nat) (h : itr p (i + d) s = itr p i s) : itr p d s = s := by
 induction i with
 | zero =>
  have e : 0 + d = d := by omega
  rw [e] at h
  exact h
 | succ i ih =>
  have e : i + 1 + d = (i + d) + 1 := by omega
  rw [e] at h
  exact ih (g_inj hp (itr_lt hp _ hs) (itr_lt hp _ hs) h)
theorem period {p : List Nat} (hp : IsP p) {s : Nat} (hs : s < p.length) : ∃ m, 1 ≤ m ∧ m ≤ p.length ∧ itr p m s = s := by
 apply Classical.byContradiction
 intro hn
 have hd : ((List.range (p.length + 1)).map (fun m => itr p m s)).Nodup := by
  refine List.pairwise_map.mpr ?_
  refine List.pairwise_iff_getElem.mpr ?_
  intro i j hi hj hij
  rw [List.length_range] at hi hj
  rw [List.getElem_range, List.getElem_range]
  intro e
  have : itr p (j - i) s = s := itr_back hp hs i (j - i) (by
   have e2 : i + (j - i) = j := by omega
   rw [e2]
   exact e.symm)
  exact hn ⟨j - i, by omega, by omega, this⟩
 have := nodup_le p.length _ hd (fun x hx => by
  obtain ⟨m, _, rfl⟩ := List.mem_map.mp hx
  exact itr_lt hp m hs)
 simp at this
 omega
def per (p : List Nat) (s : Nat) : Nat := (((List.range p.length).find? (fun m => itr p (m + 1) s == s)).getD 0) + 1
theorem per_spec {p : List Nat} (hp : IsP p) {s : Nat} (hs : s < p.length) : itr p (per p s) s = s ∧ per p s ≤ p.length ∧ ∀ m, 1 ≤ m → m < per p s → itr p m s ≠ s := by
 obtain ⟨m, m1, m2, m3⟩ := period hp hs
 unfold per
 cases h : (List.range p.length).find? (fun m => itr p (m + 1) s == s) with
 | none =>
  have := List.find?_eq_none.mp h (m - 1) (List.mem_range.mpr (by omega))
  have e : m - 1 + 1 = m := by omega
  rw [e, m3] at this
  simp at this
 | some a =>
  simp only [Option.getD_some]
  have h1 := List.find?_some h
  have h2 := List.mem_of_find?_eq_some h
  rw [List.mem_range] at h2
  refine ⟨by simpa using h1, by omega, fun m hm1 hm2 e => ?_⟩
  obtain ⟨_, as1, bs1, hb, hn⟩ := List.find?_eq_some_iff_append.mp h
  have hm : m - 1 ∈ as1 := by
   have hl : as1.length = a := by
    have e1 : (List.range p.length)[as1.length]? = some a := by rw [hb]; simp
    have := List.getElem?_eq_some_iff.mp e1
    obtain ⟨_, e2⟩ := this
    rw [List.getElem_range] at e2
    exact e2
   have e1 : (List.range p.length)[m - 1]? = some (m - 1) := by
    rw [List.getElem?_range]
    omega
   rw [hb, List.getElem?_append_left (by omega)] at e1
   exact List.mem_of_getElem? e1
  have := hn _ hm
  have e3 : m - 1 + 1 = m := by omega
  rw [e3, e] at this
  simp at this
theorem per_pos (p : List Nat) (s : Nat) : 1 ≤ per p s := by unfold per; omega
def orbTo (p : List Nat) (s m : Nat) : List Nat := (List.range m).map (fun k => itr p k s)
def orb (p : List Nat) (s : Nat) : List Nat := orbTo p s (per p s)
theorem mem_orbTo {p : List Nat} {s m x : Nat} : x ∈ orbTo p s m ↔ ∃ k, k < m ∧ itr p k s = x := by
 unfold orbTo
 simp
theorem orbTo_snoc (p : List Nat) (s m : Nat) : orbTo p s m ++ [itr p m s] = orbTo p s (m + 1) := by
 unfold orbTo
 rw [List.range_succ]
 simp
theorem orb_close {p : List Nat} (hp : IsP p) {s m : Nat} (hs : s < p.length) (hm : m < per p s) (h1 : 1 ≤ m) : itr p m s ∉ orbTo p s m := by
 intro h
 obtain ⟨k, hk, e⟩ := mem_orbTo.mp h
 have : itr p (m - k) s = s := itr_back hp hs k (m - k) (by
  have e2 : k + (m - k) = m := by omega
  rw [e2]
  exact e.symm)
 exact (per_spec hp hs).2.2 (m - k) (by omega) (by omega) this
theorem mem_orb {p : List Nat} (hp : IsP p) {s : Nat} (hs : s < p.length) {x : Nat} : x ∈ orb p s ↔ ∃ k, itr p k s = x := by
 constructor
 ·intro h
  obtain ⟨k, _, e⟩ := mem_orbTo.mp h
  exact ⟨k, e⟩
 ·intro ⟨k, e⟩
  have hper := per_spec hp hs
  have hpos := per_pos p s
  have hmod : ∀ k, itr p (k % per p s) s = itr p k s := by
   intro k
   have e1 : k % per p s + per p s * (k / per p s) = k := Nat.mod_add_div k (per p s)
   have hz : ∀ j, itr p (per p s * j) s = s := by
    intro j
    induction j with
    | zero => rfl
    | succ j ih =>
     have : per p s * (j + 1) = per p s * j + per p s := by rw [Nat.mul_add, Nat.mul_one]
     rw [this, itr_add, hper.1, ih]
   conv => rhs; rw [← e1]
   rw [itr_add, hz]
  exact mem_orbTo.mpr ⟨k % per p s, Nat.mod_lt _ (by omega), by rw [hmod, e]⟩
theorem orb_self {p : List Nat} (hp : IsP p) {s : Nat} (hs : s < p.length) : s ∈ orb p s := (mem_orb hp hs).mpr ⟨0, rfl⟩
theorem orb_lt {p : List Nat} (hp : IsP p) {s : Nat} (hs : s < p.length) {x : Nat} (h : x ∈ orb p s) : x < p.length := by
 obtain ⟨k, rfl⟩ := (mem_orb hp hs).mp h
 exact itr_lt hp k hs
theorem orb_sym {p : List Nat} (hp : IsP p) {s : Nat} (hs : s < p.length) {x : Nat} (h : x ∈ orb p s) : s ∈ orb p x := by
 obtain ⟨k, hk, e⟩ := mem_orbTo.mp h
 have hx := orb_lt hp hs h
 refine (mem_orb hp hx).mpr ⟨per p s - k, ?_⟩
 rw [← e, ← itr_add]
 have : per p s - k + k = per p s := by omega
 rw [this]
 exact (per_spec hp hs).1
theorem orb_trans {p : List Nat} (hp : IsP p) {s : Nat} (hs : s < p.length) {x y : Nat} (h : x ∈ orb p s) (k : y ∈ orb p x) : y ∈ orb p s := by
 have hx := orb_lt hp hs h
 obtain ⟨a, rfl⟩ := (mem_orb hp hs).mp h
 obtain ⟨b, rfl⟩ := (mem_orb hp hx).mp k
 exact (mem_orb hp hs).mpr ⟨b + a, itr_add p b a s⟩
def cyc (p : List Nat) : Nat → List (List Nat)
 | 0 => []
 | i + 1 => if ∃ c ∈ cyc p i, i ∈ c then cyc p i else cyc p i ++ [orb p i]
def cycles (p : List Nat) : List (List Nat) := cyc p p.length
theorem cyc_form (p : List Nat) (i : Nat) : ∀ c ∈ cyc p i, ∃ s, s < i ∧ c = orb p s := by
 induction i with
 | zero => intro c h; simp [cyc] at h
 | succ i ih =>
  intro c h
  unfold cyc at h
  split at h
  ·obtain ⟨s, h1, h2⟩ := ih c h
   exact ⟨s, by omega, h2⟩
  ·rcases List.mem_append.mp h with h | h
   ·obtain ⟨s, h1, h2⟩ := ih c h
    exact ⟨s, by omega, h2⟩
   ·exact ⟨i, by omega, by simpa using h⟩
theorem cyc_all {p : List Nat} (hp : IsP p) (i : Nat) (hi : i ≤ p.length) : ∀ x, x < i → ∃ c ∈ cyc p i, x ∈ c := by
 induction i with
 | zero => intro x h; omega
 | succ i ih =>
  intro x h
  unfold cyc
  by_cases e : x = i
  ·subst e
   split
   ·assumption
   ·exact ⟨orb p x, by simp, orb_self hp (by omega)⟩
  ·obtain ⟨c, h1, h2⟩ := ih (by omega) x (by omega)
   split
   ·exact ⟨c, h1, h2⟩
   ·exact ⟨c, List.mem_append.mpr (.inl h1), h2⟩
theorem orb_meet {p : List Nat} (hp : IsP p) {s t x : Nat} (hs : s < p.length) (ht : t < p.length) (h1 : x ∈ orb p s) (h2 : x ∈ orb p t) : t ∈ orb p s :=
 orb_trans hp hs h1 (orb_sym hp ht h2)
theorem cyc_new {p : List Nat} (hp : IsP p) {i : Nat} (hi : i < p.length) (h : ¬ ∃ c ∈ cyc p i, i ∈ c) {x : Nat} (hx : x ∈ orb p i) : ¬ ∃ c ∈ cyc p i, x ∈ c := by
 intro ⟨c, hc, hm⟩
 obtain ⟨s, hs, rfl⟩ := cyc_form p i c hc
 exact h ⟨_, hc, orb_meet hp (by omega) hi hm hx⟩
end Go.Proofs.Ytoijcallajegfaa.M
end
section
/- Plain mathematics: lists that fall, and the lengths of cycles. No conditions. -/
namespace Go.Proofs.Ytoijcallajegfaa.M
set_option linter.unusedVariables false
set_option linter.unusedSimpArgs false
def insD (x : Nat) : List Nat → List Nat
 | [] => [x]
 | y :: l => if y < x then x :: y :: l else y :: insD x l
def sortD (l : List Nat) : List Nat := l.foldl (fun a x => insD x a) []
def Fall (l : List Nat) : Prop := l.Pairwise (fun a b => b ≤ a)
theorem insD_perm (x : Nat) (l : List Nat) : (insD x l).Perm (x :: l) := by
 induction l with
 | nil => exact List.Perm.refl _
 | cons y l ih =>
  unfold insD
  split
  ·exact List.Perm.refl _
  ·exact (List.Perm.cons y ih).trans (List.Perm.swap x y l)
theorem insD_fall {x : Nat} {l : List Nat} (h : Fall l) : Fall (insD x l) := by
 induction l with
 | nil => exact List.pairwise_singleton _ _
 | cons y l ih =>
  obtain ⟨h1, h2⟩ := List.pairwise_cons.mp h
  unfold insD
  split
  ·rename_i hy
   refine List.pairwise_cons.mpr ⟨fun b hb => ?_, h⟩
   rcases List.mem_cons.mp hb with rfl | hb
   ·omega
   ·have := h1 b hb
    omega
  ·rename_i hy
   refine List.pairwise_cons.mpr ⟨fun b hb => ?_, ih h2⟩
   rcases List.mem_cons.mp ((insD_perm x l).mem_iff.mp hb) with rfl | hb
   ·omega
   ·exact h1 b hb
theorem sortD_aux : ∀ (l a : List Nat), Fall a → Fall (l.foldl (fun a x => insD x a) a) ∧ (l.foldl (fun a x => insD x a) a).Perm (a ++ l) := by
 intro l
 induction l with
 | nil => intro a h; exact ⟨h, by simp⟩
 | cons x l ih =>
  intro a h
  obtain ⟨h1, h2⟩ := ih (insD x a) (insD_fall h)
  refine ⟨h1, h2.trans ?_⟩
  exact ((insD_perm x a).append_right l).trans (List.perm_middle (l₁ := a) (a := x) (l₂ := l)).symm
theorem sortD_fall (l : List Nat) : Fall (sortD l) := (sortD_aux l [] List.Pairwise.nil).1
theorem sortD_perm (l : List Nat) : (sortD l).Perm l := (sortD_aux l [] List.Pairwise.nil).2
theorem fall_uniq : ∀ {a b : List Nat}, Fall a → Fall b → a.Perm b → a = b := by
 intro a
 induction a with
 | nil => intro b _ _ h; exact (List.nil_perm.mp h).symm
 | cons x a ih =>
  intro b ha hb h
  cases b with
  | nil => exact absurd (List.perm_nil.mp h) (by simp)
  | cons y b =>
   obtain ⟨a1, a2⟩ := List.pairwise_cons.mp ha
   obtain ⟨b1, b2⟩ := List.pairwise_cons.mp hb
   have e : x = y := by
    have h1 : x ∈ y :: b := h.mem_iff.mp (by simp)
    have h2 : y ∈ x :: a := h.mem_iff.mpr (by simp)
    rcases List.mem_cons.mp h1 with e | h1
    ·exact e
    ·rcases List.mem_cons.mp h2 with e | h2
     ·exact e.symm
     ·have := b1 x h1
      have := a1 y h2
      omega
   subst e
   rw [ih a2 b2 (List.Perm.cons_inv h)]
theorem sortD_eq {a b : List Nat} (h : ∀ m, a.count m = b.count m) : sortD a = sortD b :=
 fall_uniq (sortD_fall a) (sortD_fall b) ((sortD_perm a).trans ((List.perm_iff_count.mpr h).trans (sortD_perm b).symm))
theorem sortD_len (l : List Nat) : (sortD l).length = l.length := (sortD_perm l).length_eq
theorem count_map_len (C : List (List Nat)) (m : Nat) : (C.map List.length).count m = (C.filter (fun c => c.length == m)).length := by
 induction C with
 | nil => rfl
 | cons c C ih =>
  rw [List.map_cons, List.count_cons, ih, List.filter_cons]
  by_cases h : c.length = m
  ·simp [h]
  ·have : (c.length == m) = false := by simp [h]
   simp [h]
def perN (p : List Nat) (m : Nat) : List Nat := (List.range p.length).filter (fun x => decide (per p x = m))
theorem flat_filter_len (C : List (List Nat)) (m : Nat) : ((C.filter (fun c => c.length == m)).flatten).length = m * (C.filter (fun c => c.length == m)).length := by
 induction C with
 | nil => simp
 | cons c C ih =>
  rw [List.filter_cons]
  by_cases h : c.length = m
  ·have : (c.length == m) = true := by simp [h]
   rw [if_pos this, List.flatten_cons, List.length_append, ih, h, List.length_cons, Nat.mul_add]
   omega
  ·have : (c.length == m) = false := by simp [h]
   rw [this]
   simp only [Bool.false_eq_true, if_false]
   exact ih
end Go.Proofs.Ytoijcallajegfaa.M
end
section
namespace Go.Proofs.Ytoijcallajegfaa.A
open Go.RowKit Go.Proofs.YtoijcallajegfaaW.PrintWords Go.Proofs.YtoijcallajegfaaW.PrintLast Go.Proofs.YtoijcallajegfaaW.PrintMore
attribute [local go_sem] max2_int min2_int max_two min_two max_three min_three max_four min_four
set_option linter.unusedVariables false
set_option linter.unusedSimpArgs false
def Z0.f (l0 : List Int) : Option (List Int) := if (∀ x ∈ l0, 0 ≤ x ∧ x ≤ 4611686018427387904) ∧ l0.length < 4611686018427387904 then some ((M.sortD (l0.map Int.toNat)).map fun (n : Nat) => (n : Int)) else none
theorem Z0.closure (x y : Int) (W : World) : Calls Try.prog 74 #[.int .i64 x, .int .i64 y] W fun e w' => e = .returned (.int .i64 (wrap64 (y - x))) ∧ ∃ q os', w' = Go.Sort.grow (W.drewN q) os' := by
 go_enter Try.func74, Try.ntmps74
 go_wp2
 go_ret
 exact ⟨by first | rfl | (rw [i64_w]), 0, #[], by rw [Go.Sort.grow_empty]; rfl⟩
theorem Z0.ord : M.Ord3 (fun x : Int => 0 ≤ x ∧ x ≤ 4611686018427387904) (fun x y => wrap64 (y - x)) where
 irr x hx := by unfold wrap64; omega
 tr x y z hx hy hz h1 h2 := by unfold wrap64 at *; omega
 nt x y z hx hy hz h1 h2 := by unfold wrap64 at *; omega
set_option maxHeartbeats 8000000 in
set_option maxRecDepth 100000 in
theorem Z0.calls (P0_ : Nat → Prop) (u9000_ : Value) (l0 : List Int) (r : List Int) (w0 w : World) (hB : Below w0.heap.size w0 w) (ho0 : Kd.R (Kd.int .i64) 3 w w0.heap.size P0_ u9000_ l0) (h : Z0.f l0 = some r) :
  Calls Try.prog 73 #[u9000_, .func (.func 74) #[] #[]] w fun e w' => e = .returned (.tuple #[]) ∧ Kd.R (Kd.int .i64) 3 w' w0.heap.size (fun k_ => (P0_ k_ ∨ w.heap.size ≤ k_)) u9000_ r ∧ Below w0.heap.size w0 w' ∧ Kept w w' (fun k_ => P0_ k_) := by
 unfold Z0.f at h
 split at h
 ·rename_i hq
  obtain rfl := Option.some.inj h
  have key := M.sortN1 (d := Kd.int .i64) (Q := fun x : Int => 0 ≤ x ∧ x ≤ 4611686018427387904) (cf := fun x y => wrap64 (y - x)) Try.sortA73 Try.sortB73 rfl Z0.ord 74 (enters_of Try.func74 (by kernel_rfl) rfl)
   (fun W x y cx cy _ _ hx hy => by
    have e1 : cx = .int .i64 x := (List.cons.inj hx).1
    have e2 : cy = .int .i64 y := (List.cons.inj hy).1
    subst e1 e2
    exact Z0.closure x y W) ho0 hq.1 hq.2
  refine key.mono ?_
  rintro e w' ⟨rfl, xs', hp, hs, hR, hK, hB2⟩
  have hx : xs' = (M.sortD (l0.map Int.toNat)).map fun (n : Nat) => (n : Int) := by
   have hnn : ∀ x ∈ xs', 0 ≤ x ∧ x ≤ 4611686018427387904 := fun x hx => hq.1 x (hp.mem_iff.1 hx)
   have h1 : xs' = (xs'.map Int.toNat).map fun (n : Nat) => (n : Int) := by
    rw [List.map_map]
    conv => lhs; rw [← List.map_id xs']
    apply List.map_congr_left
    intro x hx
    have := hnn x hx
    simp only [id, Function.comp]
    omega
   have h2 : M.Fall (xs'.map Int.toNat) := by
    unfold M.Fall
    rw [List.pairwise_map]
    refine hs.imp_of_mem ?_
    intro a b ha hb hab
    have := hnn a ha
    have := hnn b hb
    have hab' : ¬ wrap64 (a - b) < 0 := hab
    unfold wrap64 at hab'
    clear hab
    omega
   have h3 : xs'.map Int.toNat = M.sortD (l0.map Int.toNat) := M.fall_uniq h2 (M.sortD_fall _) ((hp.map _).trans (M.sortD_perm _).symm)
   rw [← h3]
   exact h1
  rw [← hx]
  exact ⟨rfl, Kd.R_mono hR (fun _ hk => .inl hk), hB.trans hB2, ⟨hK.1, fun i hi hn => hK.2 i hi (fun e_ => hn (ho0.1 i e_.symm))⟩⟩
 ·cases h
def Z35.l0 : Nat → List Int → List (List Int) → Int → Int → Option (List Int)
 | 0, _, _, _, _ => none
 | k + 1, x3, x8, x9, x10 => if x10 < x9 then (if 0 ≤ x10 then (if x10 < (x8.length : Int) then (if x3.length < 17592186044416 then (Z35.l0 k (x3 ++ [((rd_L5 x8 x10).length : Int)]) x8 x9 (wrap64 (x10 + 1))) else (none)) else (none)) else (none)) else ((Z0.f x3).bind fun t372 => (some t372))
def Z35.f (k : Nat) (l0_0 : List Int) (l0_1 : List Int) : Option (List Int) := (Z27.f k l0_0 l0_1).bind fun t365 => (Z35.l0 k (([] : List Int)) t365 (t365.length : Int) 0)
theorem Z35.mono_l : ∀ k, (∀ y0 y1 y2 y3, LeO (Z35.l0 k y0 y1 y2 y3) (Z35.l0 (k + 1) y0 y1 y2 y3))
 | 0 => fun _ _ _ _ r h => by simp [Z35.l0] at h
 | k + 1 => by
  have ih0 := Z35.mono_l k
  ·intro y0 y1 y2 y3
   unfold Z35.l0
   repeat' first|exact ih0 _ _ _ _|exact Z27.mono _ _ _|exact lo_|refine LeO.ite ?_ ?_|refine LeO.bind ?_ (fun _ => ?_)
theorem Z35.mono : ∀ a0 a1 k, LeO (Z35.f k a0 a1) (Z35.f (k + 1) a0 a1) := by
 intro a0 a1 k
 have ih0 := Z35.mono_l k
 unfold Z35.f
 repeat' first|exact ih0 _ _ _ _|exact Z27.mono _ _ _|exact lo_|refine LeO.ite ?_ ?_|refine LeO.bind ?_ (fun _ => ?_)
set_option maxHeartbeats 8000000 in
set_option maxRecDepth 100000 in
theorem Z35.calls (k : Nat) (A0_0 : Option Addr) (c0_0 : Nat) (l0_0 : List Int) (A0_1 : Option Addr) (c0_1 : Nat) (l0_1 : List Int) (r : List Int) (w : World) (hr0_0 : Kd.C (Kd.int .i64) w A0_0 l0_0.length l0_0) (hc0_0 : l0_0.length ≤ c0_0) (hr0_1 : Kd.C (Kd.int .i64) w A0_1 l0_1.length l0_1) (hc0_1 : l0_1.length ≤ c0_1) (h : Z35.f k l0_0 l0_1 = some r) :
  Calls Try.prog 25 #[.agg #[.slice A0_0 l0_0.length c0_0, .slice A0_1 l0_1.length c0_1]] w fun e w' => ∃ v0_ : Value, e = .returned (v0_) ∧ Kd.R (Kd.int .i64) 3 w' w.heap.size (fun _ => True) v0_ r ∧ Below w.heap.size w w' := by
 have hu33 := Try.underlying33
 have HR0_0 := A_ hr0_0
 have HC0_0 := A_ hc0_0
 clear hr0_0 hc0_0
 have HR0_1 := A_ hr0_1
 have HC0_1 := A_ hc0_1
 clear hr0_1 hc0_1
 have HB := A_ (Below.refl w.heap.size w)
 have H := h
 unfold Z35.f at H
 clear h
 obtain ⟨y362, hy362⟩ : ∃ y_ : List Int, y_ = (([] : List Int)) := ⟨_, rfl⟩
 replace H : ((Z27.f k l0_0 l0_1).bind fun t365 => (Z35.l0 k y362 t365 (t365.length : Int) 0)) = some r := by first | (rw [hy362]; exact H) | exact H
 have Ny362 := A_ hy362
 clear hy362
 obtain ⟨t365, A2, H⟩ := bi_ H
 have H' := A_ H
 clear H
 go_enter Try.func25, Try.ntmps25
 go_wp2_with (first | ((with_reducible refine gB_ (N := 1) rfl ?_); refine bx_ 1 #[.slice A0_0 l0_0.length c0_0, .slice A0_1 l0_1.length c0_1] 33 ?_; intro gb361 hg w3 hbox hb; have BK361 := A_ hbox; have GW361 := gw_ w hg; have GE361 := GW361; replace HB := b1_ hb; clear hb hbox hg) | ((with_reducible refine gB_ (N := 6) rfl ?_); refine Kd.R_lit (Kd.int .i64) _ 3 ?hg (N := 6) ?hd (xs := ([] : List Int)) (inner := []) (ok := fun _ => True) (okp := fun _ => True) ?hr ?hp (fun _ hk => hk) trivial (Below.refl _ _) (nA_ _) (by simp) ?_; (case hd => rfl); (case hg => rfl); (case hr => first | (go_simp; done) | (go_simp; rfl)); (case hp => exact (Reps.none _ _)); intro v363 w4 ho5 hb hg_ hnew_; clear hg_ hnew_; (first | rw [← Ny362.out] at ho5 | (simp only [Int.reduceToNat] at ho5; rw [← Ny362.out] at ho5)); have HO364 := rl_ w ho5; replace BK361 := bb_ BK361 hb; replace HB := b1_ hb; clear hb ho5; obtain ⟨hcz6_0, hcz6_1, hfz6_0, hfz6_1⟩ := c2_ BK361) | ((with_reducible refine gA_ (f := 72) rfl ?_); refine gL_ (some 8) Try.func72 #[.agg #[.slice A0_0 l0_0.length c0_0, .slice A0_1 l0_1.length c0_1]] rfl qa_ ?_; (with_reducible refine (Z27.calls k _ _ l0_0 _ _ l0_1 t365 _ (cb_ HR0_0) HC0_0.out (cb_ HR0_1) HC0_1.out A2.out).mono ?_); rintro e w7 ⟨v366, rfl, ho0, hb⟩; refine ⟨_, rfl, ?_⟩; have HO367 := A_ (Kd.S_lower (Kd.S_new' ho0 (Kd.R_lt (rr_ HO364))) (bF_ hB_)); replace HO364 := rb_ HO364 hb; replace BK361 := bb_ BK361 hb; replace HB := b1_ hb; clear hb ho0; obtain ⟨Ao8, co8, eo8⟩ := Kd.S_slice HO367.out; subst eo8))
 go_loopg [3, 10] k (fun kq v3 v10 w' => ∃ (x3_1 : List Int) (x10_1 : Int), v10 = .int .i64 x10_1 ∧ Aside0 (Z35.l0 kq x3_1 t365 (t365.length : Int) x10_1 = some r) ∧ Aside0 (kq ≤ k) ∧ Aside0 (Kd.R (Kd.int .i64) 3 w' w.heap.size (fun _ => True) v3 x3_1) ∧ Aside0 (Kd.S (Kd.slice 3 (Kd.int .i64)) 23 w' w.heap.size (fun k_ => some k_ ≠ (v3 : Value).ownBlock) (.slice Ao8 t365.length co8) t365) ∧ Aside0 (w'.heap[gb361]? = some (.cells #[(.slice A0_0 l0_0.length c0_0), (.slice A0_1 l0_1.length c0_1)] 33 (0, 0))) ∧ Aside0 (Below w.heap.size w w'))
 case atStart => exact ⟨(y362), (0), qc_, H', ⟨nA_ _⟩, ⟨(rr_ HO364)⟩, ⟨(sw_ (Kd.S_mono HO367.out (fun _ hk => hk.2)))⟩, ⟨(kk_ BK361)⟩, ⟨hB_⟩⟩
 case round =>
  clear H'
  obtain ⟨x3_1, x10_1, rfl, HA, HK1, HO_3, HO_8, BK361, HB⟩ := hrel
  cases gk with
  | zero => exact absurd HA.out (by simp [Z35.l0])
  | succ k1 =>
   have H := HA.out
   clear HA
   simp only [Z35.l0] at H
   by_cases c9 : x10_1 < (t365.length : Int)
   ·rw [if_pos c9] at H
    have c9b0 := oC_ c9
    clear c9
    have c10 := cp_ H
    replace H := ca_ H
    have c10b0 := oC_ c10
    clear c10
    have c11 := cp_ H
    replace H := ca_ H
    have c11b0 := oC_ c11
    clear c11
    have c12 := cp_ H
    replace H := ca_ H
    have LMc12 := A_ c12
    clear c12
    obtain ⟨y369, hy369⟩ : ∃ y_ : List Int, y_ = (x3_1 ++ [((rd_L5 t365 x10_1).length : Int)]) := ⟨_, rfl⟩
    replace H : (Z35.l0 k1 y369 t365 (t365.length : Int) (wrap64 (x10_1 + 1))) = some r := by first | (rw [hy369]; exact H) | exact H
    have Ny369 := A_ hy369
    clear hy369
    have H' := A_ H
    clear H
    have p368 : 0 ≤ (x10_1 : Int) := oB_ qe_
    have q368 : x10_1 < (t365.length : Int) := oB_ qe_
    obtain ⟨ad368, A368_0, c368_0, e368, hx368_0, hl368_0, hi368_0⟩ := at_L5 (Kd.S_reads' HO_8.out).2.2 x10_1 p368 q368
    cases e368
    obtain ⟨ce368, hce368, hMe368, hcc368⟩ := Kd.S_get HO_8.out [] x10_1 p368 (by first | exact q368 | exact oB_ qe_ | (have e_ := (Kd.S_reads' HO_8.out).1; omega))
    obtain ⟨ve368_0, rfl, ge368_0⟩ := hMe368
    have hv368_0 := hcc368 0 _ rfl
    rw [Nat.add_zero, show ((Kd.slice 3 (Kd.int .i64))).sz = 1 from rfl, Nat.mul_one] at hv368_0
    replace hv368_0 := Option.some.inj (hv368_0.symm.trans hx368_0)
    rw [hv368_0] at ge368_0
    have HL368_0 := A_ (show Kd.R (Kd.int .i64) 3 _ _ _ _ (rd_L5 t365 x10_1) from ge368_0)
    clear hv368_0 ge368_0
    clear hcc368 hce368
    have HR368_0 := A_ hi368_0
    have HC368_0 := A_ hl368_0
    clear hi368_0 hl368_0
    replace p368 := eq_true p368
    replace q368 := eq_true q368
    go_wp2_with (first | ((with_reducible refine gate_builtin (b := .append) (xs := #[.tmp 14, .tmp 17]) rfl ?_); at_builtin; refine Kd.R_append (Kd.int .i64) (w0 := w) w.heap.size rfl (.tmp 14) (.tmp 17) 23 3 (.int .i64 0) 8 rfl Try.underlying23 info3 rfl (by decide) (by omega) u3 x3_1 ((rd_L5 t365 x10_1).length : Int) [.int .i64 ((rd_L5 t365 x10_1).length : Int)] (fun _ => True) (fun _ => False) rfl rfl ?aP (fun _ hk => hk.elim) ?aF ?aO ?aB ?aS ?aL ?_; (case aP => exact rfl); (case aB => exact hB_); (case aF => exact (fun _ _ => trivial)); (case aO => exact (rr_ HO_3)); (case aS => exact (bF_ hB_)); (case aL => have := LMc12.out; omega); intro v370 w13 ho hb hg hat; rw [← Ny369.out] at ho; replace HO_8 := A_ (Kd.S_after (ok := (fun _ => True)) (sw_ (Kd.S_mono HO_8.out (fun _ hk => ⟨trivial, hk⟩))) hg hat); replace BK361 := A_ (blk_grown (kk_ BK361) hg (Kd.R_ne HO_3.out BK361.out (by decide))); replace HL368_0 := A_ (Kd.R_after (ok := (fun k_ => some k_ ≠ (.slice (some ad368) t365.length co8 : Value).ownBlock)) (rw_ (Kd.R_mono HL368_0.out (fun _ hk => ⟨hk.2, hk.1⟩))) hg hat); replace HB := A_ hb; have HO371 := A_ ho; clear HO_3; clear ho hb hg hat))
    go_roundg k1
    case measure => have := HK1.out; omega
    case rel => exact ⟨(y369), (wrap64 (x10_1 + 1)), qc_, H', ⟨by have := HK1.out; omega⟩, ⟨(rr_ HO371)⟩, ⟨(sw_ (Kd.S_mono HO_8.out (fun _ hk => hk.2)))⟩, ⟨(kk_ BK361)⟩, ⟨hB_⟩⟩
   ·rw [if_neg c9] at H
    have c9b0 := oD_ c9
    clear c9
    obtain ⟨t372, A14, H⟩ := bi_ H
    obtain rfl := Option.some.inj H
    obtain ⟨Ao15, co15, eo15⟩ := Kd.R_slice HO_3.out
    subst eo15
    go_wp2_with (first | ((with_reducible refine gA_ (f := 73) rfl ?_); refine gL_ (some 21) Try.func73 #[.slice Ao15 x3_1.length co15, .func (.func 74) #[] #[]] rfl qa_ ?_; (with_reducible refine (Z0.calls (fun k_ => some k_ = (.slice Ao15 x3_1.length co15 : Value).ownBlock) (.slice Ao15 x3_1.length co15) x3_1 t372 w _ ?side1 ?side2 A14.out).mono ?_); (case side1 => repeat (first | (with_reducible first | exact HB.out | apply bA_ | apply bB_ | apply bC_ | refine bD_ ?_ GE361.out) | exact HB.out)); (case side2 => exact Kd.R_tight rfl HO_3.out); rintro e w16 ⟨rfl, hy0, hb, hkp⟩; refine ⟨_, rfl, ?_⟩; replace HO_8 := A_ (Kd.S_mono (ok' := fun k_ => some k_ ≠ (.slice Ao15 x3_1.length co15 : Value).ownBlock) (Kd.S_keptB (HO_8.out) hkp (fun k_ hk_ hs_ => (hk_) hs_)) (fun k_ hk_ => hk_.1)); replace BK361 := A_ (blk_kept (kk_ BK361) hkp (fun hs_ => (fun e_ => (Kd.R_ne HO_3.out BK361.out (by decide)) e_) hs_)); replace HO_3 := A_ (Kd.R_reok rfl hy0 (fun k_ e_ => HO_3.out.1 k_ e_)); replace HB := A_ hb; clear hb hkp hy0))
    go_ret
    exact ⟨_, qb_, (rr_ HO_3), hB_⟩
def Z30.l0 : Nat → List Int → List Int → Int → Int → Option (List Int)
 | 0, _, _, _, _ => none
 | k + 1, x3, x8, x9, x10 => if x10 < x9 then (if 0 ≤ x10 then (if x10 < (x8.length : Int) then (if (rd x8 x10) > 1 then (if x3.length < 17592186044416 then (Z30.l0 k (x3 ++ [wrap64 ((rd x8 x10) - 1)]) x8 x9 (wrap64 (x10 + 1))) else (none)) else (Z30.l0 k x3 x8 x9 (wrap64 (x10 + 1)))) else (none)) else (none)) else (some x3)
def Z30.f (k : Nat) (l0_0 : List Int) (l0_1 : List Int) : Option (List Int) := (Z35.f k l0_0 l0_1).bind fun t377 => (Z30.l0 k (([] : List Int)) t377 (t377.length : Int) 0)
theorem Z30.mono_l : ∀ k, (∀ y0 y1 y2 y3, LeO (Z30.l0 k y0 y1 y2 y3) (Z30.l0 (k + 1) y0 y1 y2 y3))
 | 0 => fun _ _ _ _ r h => by simp [Z30.l0] at h
 | k + 1 => by
  have ih0 := Z30.mono_l k
  ·intro y0 y1 y2 y3
   unfold Z30.l0
   repeat' first|exact ih0 _ _ _ _|exact Z35.mono _ _ _|exact lo_|refine LeO.ite ?_ ?_|refine LeO.bind ?_ (fun _ => ?_)
theorem Z30.mono : ∀ a0 a1 k, LeO (Z30.f k a0 a1) (Z30.f (k + 1) a0 a1) := by
 intro a0 a1 k
 have ih0 := Z30.mono_l k
 unfold Z30.f
 repeat' first|exact ih0 _ _ _ _|exact Z35.mono _ _ _|exact lo_|refine LeO.ite ?_ ?_|refine LeO.bind ?_ (fun _ => ?_)
set_option maxHeartbeats 8000000 in
set_option maxRecDepth 100000 in
theorem Z30.calls (k : Nat) (A0_0 : Option Addr) (c0_0 : Nat) (l0_0 : List Int) (A0_1 : Option Addr) (c0_1 : Nat) (l0_1 : List Int) (r : List Int) (w : World) (hr0_0 : Kd.C (Kd.int .i64) w A0_0 l0_0.length l0_0) (hc0_0 : l0_0.length ≤ c0_0) (hr0_1 : Kd.C (Kd.int .i64) w A0_1 l0_1.length l0_1) (hc0_1 : l0_1.length ≤ c0_1) (h : Z30.f k l0_0 l0_1 = some r) :
  Calls Try.prog 26 #[.agg #[.slice A0_0 l0_0.length c0_0, .slice A0_1 l0_1.length c0_1]] w fun e w' => ∃ v0_ : Value, e = .returned (v0_) ∧ Kd.R (Kd.int .i64) 3 w' w.heap.size (fun _ => True) v0_ r ∧ Below w.heap.size w w' := by
 have hu33 := Try.underlying33
 have HR0_0 := A_ hr0_0
 have HC0_0 := A_ hc0_0
 clear hr0_0 hc0_0
 have HR0_1 := A_ hr0_1
 have HC0_1 := A_ hc0_1
 clear hr0_1 hc0_1
 have HB := A_ (Below.refl w.heap.size w)
 have H := h
 unfold Z30.f at H
 clear h
 obtain ⟨y374, hy374⟩ : ∃ y_ : List Int, y_ = (([] : List Int)) := ⟨_, rfl⟩
 replace H : ((Z35.f k l0_0 l0_1).bind fun t377 => (Z30.l0 k y374 t377 (t377.length : Int) 0)) = some r := by first | (rw [hy374]; exact H) | exact H
 have Ny374 := A_ hy374
 clear hy374
 obtain ⟨t377, A2, H⟩ := bi_ H
 have H' := A_ H
 clear H
 go_enter Try.func26, Try.ntmps26
 go_wp2_with (first | ((with_reducible refine gB_ (N := 1) rfl ?_); refine bx_ 1 #[.slice A0_0 l0_0.length c0_0, .slice A0_1 l0_1.length c0_1] 33 ?_; intro gb373 hg w3 hbox hb; have BK373 := A_ hbox; have GW373 := gw_ w hg; have GE373 := GW373; replace HB := b1_ hb; clear hb hbox hg) | ((with_reducible refine gB_ (N := 6) rfl ?_); refine Kd.R_lit (Kd.int .i64) _ 3 ?hg (N := 6) ?hd (xs := ([] : List Int)) (inner := []) (ok := fun _ => True) (okp := fun _ => True) ?hr ?hp (fun _ hk => hk) trivial (Below.refl _ _) (nA_ _) (by simp) ?_; (case hd => rfl); (case hg => rfl); (case hr => first | (go_simp; done) | (go_simp; rfl)); (case hp => exact (Reps.none _ _)); intro v375 w4 ho5 hb hg_ hnew_; clear hg_ hnew_; (first | rw [← Ny374.out] at ho5 | (simp only [Int.reduceToNat] at ho5; rw [← Ny374.out] at ho5)); have HO376 := rl_ w ho5; replace BK373 := bb_ BK373 hb; replace HB := b1_ hb; clear hb ho5; obtain ⟨hcz6_0, hcz6_1, hfz6_0, hfz6_1⟩ := c2_ BK373) | ((with_reducible refine gA_ (f := 25) rfl ?_); refine gL_ (some 8) Try.func25 #[.agg #[.slice A0_0 l0_0.length c0_0, .slice A0_1 l0_1.length c0_1]] rfl qa_ ?_; (with_reducible refine (Z35.calls k _ _ l0_0 _ _ l0_1 t377 _ (cb_ HR0_0) HC0_0.out (cb_ HR0_1) HC0_1.out A2.out).mono ?_); rintro e w7 ⟨v378, rfl, ho0, hb⟩; refine ⟨_, rfl, ?_⟩; have HO379 := A_ (rE_ (Kd.R_new' ho0 (Kd.R_lt (rr_ HO376))) (bF_ hB_)); replace HO376 := A_ (Kd.R_elder' (rr_ HO376) (Kd.R_base ho0) hb); replace BK373 := bb_ BK373 hb; replace HB := b1_ hb; clear hb ho0; obtain ⟨Ao8, co8, eo8⟩ := Kd.R_slice HO379.out; subst eo8))
 go_loopg [3, 10] k (fun kq v3 v10 w' => ∃ (x3_1 : List Int) (x10_1 : Int), v10 = .int .i64 x10_1 ∧ Aside0 (Z30.l0 kq x3_1 t377 (t377.length : Int) x10_1 = some r) ∧ Aside0 (kq ≤ k) ∧ Aside0 (Kd.R (Kd.int .i64) 3 w' w.heap.size (fun k_ => some k_ ≠ ((.slice Ao8 t377.length co8) : Value).ownBlock) v3 x3_1) ∧ Aside0 (Kd.R (Kd.int .i64) 3 w' w.heap.size (fun k_ => some k_ ≠ (v3 : Value).ownBlock) (.slice Ao8 t377.length co8) t377) ∧ Aside0 (w'.heap[gb373]? = some (.cells #[(.slice A0_0 l0_0.length c0_0), (.slice A0_1 l0_1.length c0_1)] 33 (0, 0))) ∧ Aside0 (Below w.heap.size w w'))
 case atStart => exact ⟨(y374), (0), qc_, H', ⟨nA_ _⟩, ⟨(rw_ (Kd.R_mono HO376.out (fun _ hk => hk.2)))⟩, ⟨(rw_ (Kd.R_mono HO379.out (fun _ hk => hk.2)))⟩, ⟨(kk_ BK373)⟩, ⟨hB_⟩⟩
 case round =>
  clear H'
  obtain ⟨x3_1, x10_1, rfl, HA, HK1, HO_3, HO_8, BK373, HB⟩ := hrel
  cases gk with
  | zero => exact absurd HA.out (by simp [Z30.l0])
  | succ k1 =>
   have H := HA.out
   clear HA
   simp only [Z30.l0] at H
   by_cases c9 : x10_1 < (t377.length : Int)
   ·rw [if_pos c9] at H
    have c9b0 := oC_ c9
    clear c9
    have c10 := cp_ H
    replace H := ca_ H
    have c10b0 := oC_ c10
    clear c10
    have c11 := cp_ H
    replace H := ca_ H
    have c11b0 := oC_ c11
    clear c11
    by_cases c12 : (rd t377 x10_1) > 1
    ·rw [if_pos c12] at H
     have c12b0 : decide (1 < (rd t377 x10_1)) = true := oC_ c12
     clear c12
     have c13 := cp_ H
     replace H := ca_ H
     have LMc13 := A_ c13
     clear c13
     obtain ⟨y381, hy381⟩ : ∃ y_ : List Int, y_ = (x3_1 ++ [wrap64 ((rd t377 x10_1) - 1)]) := ⟨_, rfl⟩
     replace H : (Z30.l0 k1 y381 t377 (t377.length : Int) (wrap64 (x10_1 + 1))) = some r := by first | (rw [hy381]; exact H) | exact H
     have Ny381 := A_ hy381
     clear hy381
     have H' := A_ H
     clear H
     have p380 : 0 ≤ (x10_1 : Int) := oB_ qe_
     have q380 : x10_1 < (t377.length : Int) := oB_ qe_
     obtain ⟨ad380, e380, hx380_0⟩ := Kd.at_int (Kd.R_reads' HO_8.out).2.2 x10_1 p380 q380
     cases e380
     replace p380 := eq_true p380
     replace q380 := eq_true q380
     go_wp2_with (first | ((with_reducible refine gate_builtin (b := .append) (xs := #[.tmp 16, .tmp 19]) rfl ?_); at_builtin; refine Kd.R_append (Kd.int .i64) (w0 := w) w.heap.size rfl (.tmp 16) (.tmp 19) 23 3 (.int .i64 0) 8 rfl Try.underlying23 info3 rfl (by decide) (by omega) u3 x3_1 (wrap64 ((rd t377 x10_1) - 1)) [.int .i64 (wrap64 ((rd t377 x10_1) - 1))] (fun k_ => some k_ ≠ (.slice (some ad380) t377.length co8 : Value).ownBlock) (fun _ => False) rfl rfl ?aP (fun _ hk => hk.elim) ?aF ?aO ?aB ?aS ?aL ?_; (case aP => exact rfl); (case aB => exact hB_); (case aF => exact (fun k_ hk => Kd.fresh' (Kd.R_lt (rr_ HO_8)) k_ hk)); (case aO => exact (rr_ HO_3)); (case aS => exact (bF_ hB_)); (case aL => have := LMc13.out; omega); intro v382 w14 ho hb hg hat; rw [← Ny381.out] at ho; replace HO_8 := A_ (Kd.R_after (ok := (fun _ => True)) (rw_ (Kd.R_mono HO_8.out (fun _ hk => ⟨trivial, hk⟩))) hg hat); replace BK373 := A_ (blk_grown (kk_ BK373) hg (Kd.R_ne HO_3.out BK373.out (by decide))); replace HB := A_ hb; have HO383 := A_ ho; clear HO_3; clear ho hb hg hat))
     go_roundg k1
     case measure => have := HK1.out; omega
     case rel => exact ⟨(y381), (wrap64 (x10_1 + 1)), qc_, H', ⟨by have := HK1.out; omega⟩, ⟨(rr_ HO383)⟩, ⟨(rw_ (Kd.R_mono HO_8.out (fun _ hk => hk.2)))⟩, ⟨(kk_ BK373)⟩, ⟨hB_⟩⟩
    ·rw [if_neg c12] at H
     have c12b0 : decide (1 < (rd t377 x10_1)) = false := oD_ c12
     clear c12
     have H' := A_ H
     clear H
     have p380 : 0 ≤ (x10_1 : Int) := oB_ qe_
     have q380 : x10_1 < (t377.length : Int) := oB_ qe_
     obtain ⟨ad380, e380, hx380_0⟩ := Kd.at_int (Kd.R_reads' HO_8.out).2.2 x10_1 p380 q380
     cases e380
     replace p380 := eq_true p380
     replace q380 := eq_true q380
     go_wp2
     go_roundg k1
     case measure => have := HK1.out; omega
     case rel => exact ⟨(x3_1), (wrap64 (x10_1 + 1)), qc_, H', ⟨by have := HK1.out; omega⟩, ⟨(rr_ HO_3)⟩, ⟨(rr_ HO_8)⟩, ⟨(kk_ BK373)⟩, ⟨hB_⟩⟩
   ·rw [if_neg c9] at H
    have c9b0 := oD_ c9
    clear c9
    obtain rfl := Option.some.inj H
    go_wp2
    go_ret
    exact ⟨_, qb_, (rw_ (Kd.R_mono HO_3.out (fun _ hk => trivial))), hB_⟩
def IsS102 (w0 W : World) (g : Nat) (f0 : List Int) (f1 : Int) (f2 : Int) : Prop := ∃ A0 c0, W.heap[g]? = some (.cells #[.slice A0 f0.length c0, .int .i64 f1, .int .i64 f2] 102 (0, 0)) ∧ w0.heap.size ≤ g ∧ Kd.C (Kd.int .u8) w0 A0 f0.length f0
theorem IsS102.grown {w0 W : World} {g : Nat} {f0 : List Int} {f1 : Int} {f2 : Int} {W1 : World} {row : Option Nat} (h : IsS102 w0 W g f0 f1 f2) (hw : W.grownBy W1 row) (hne : some g ≠ row) : IsS102 w0 W1 g f0 f1 f2 := by
 obtain ⟨A0, c0, hb, hg, hr0⟩ := h
 exact ⟨A0, c0, blk_grown hb hw hne, hg, hr0⟩
theorem IsS102.own_neN {w0 W : World} {g : Nat} {f0 : List Int} {f1 : Int} {f2 : Int} {α : Type} {d : Kd α} {e : Nat} {base : Nat} {ok : Nat → Prop} {v : Value} {xs : List α} (h : IsS102 w0 W g f0 f1 f2) (ho : Kd.N d e W base ok v xs) (ht : e ≠ 102) : some g ≠ v.ownBlock := by
 obtain ⟨A0, c0, hb, hg, hr0⟩ := h
 exact Kd.N_ne ho hb ht
theorem IsS102.fresh {w0 W : World} {g : Nat} {f0 : List Int} {f1 : Int} {f2 : Int} (h : IsS102 w0 W g f0 f1 f2) : ∀ k, W.heap.size ≤ k → k ≠ g := by
 obtain ⟨A0, c0, hb, hg, hr0⟩ := h
 exact Kd.freshB hb
theorem IsS102.kept {w0 W : World} {g : Nat} {f0 : List Int} {f1 : Int} {f2 : Int} {W1 : World} {S : Nat → Prop} (h : IsS102 w0 W g f0 f1 f2) (hk : Kept W W1 S) (hne : ¬ S g) : IsS102 w0 W1 g f0 f1 f2 := by
 obtain ⟨A0, c0, hb, hg, hr0⟩ := h
 exact ⟨A0, c0, blk_kept hb hk hne, hg, hr0⟩
theorem IsS102.below {w0 W : World} {g : Nat} {f0 : List Int} {f1 : Int} {f2 : Int} {W1 : World} (h : IsS102 w0 W g f0 f1 f2) (hw : Below W.heap.size W W1) : IsS102 w0 W1 g f0 f1 f2 := h.grown (grown_of_below hw none) (by simp)
theorem IsS102.alloc {w0 W : World} {g : Nat} {f0 : List Int} {f1 : Int} {f2 : Int} (h : IsS102 w0 W g f0 f1 f2) (o : Obj) : IsS102 w0 (W.alloc o) g f0 f1 f2 := h.below (bA_ (Below.refl _ _) o)
theorem IsS102.drewN {w0 W : World} {g : Nat} {f0 : List Int} {f1 : Int} {f2 : Int} (h : IsS102 w0 W g f0 f1 f2) (m : Nat) : IsS102 w0 (W.drewN m) g f0 f1 f2 := h
theorem IsS102.drew {w0 W : World} {g : Nat} {f0 : List Int} {f1 : Int} {f2 : Int} (h : IsS102 w0 W g f0 f1 f2) : IsS102 w0 W.drew g f0 f1 f2 := h
theorem IsS102.at_ {w0 W : World} {g : Nat} {f0 : List Int} {f1 : Int} {f2 : Int} {w' : World} {m : Nat} (hq : W.drewN m = w') (h : IsS102 w0 W g f0 f1 f2) : IsS102 w0 w' g f0 f1 f2 := by subst hq; exact IsS102.drewN h m
theorem IsS102.apart {w0 W : World} {g : Nat} {f0 : List Int} {f1 : Int} {f2 : Int} {α : Type} {d : Kd α} {e : Nat} {base : Nat} {ok : Nat → Prop} {v : Value} {xs : List α} (h : IsS102 w0 W g f0 f1 f2) (ho : d.R e W base ok v xs) (ht : ∀ q, q ∈ e :: d.E → q ≠ 102) : d.R e W base (fun k => ok k ∧ k ≠ g) v xs := by
 obtain ⟨A0, c0, hb, hg, hr0⟩ := h
 exact Kd.R_types ho hb ht
theorem IsS102.own_ne {w0 W : World} {g : Nat} {f0 : List Int} {f1 : Int} {f2 : Int} {α : Type} {d : Kd α} {e : Nat} {base : Nat} {ok : Nat → Prop} {v : Value} {xs : List α} (h : IsS102 w0 W g f0 f1 f2) (ho : d.R e W base ok v xs) (ht : e ≠ 102) : some g ≠ v.ownBlock := by
 obtain ⟨A0, c0, hb, hg, hr0⟩ := h
 exact Kd.R_ne ho hb ht
theorem IsS102.apartQ {w0 W : World} {g : Nat} {f0 : List Int} {f1 : Int} {f2 : Int} {α : Type} {d : Kd α} {e : Nat} {base : Nat} {ok : Nat → Prop} {v : Value} {xs : List α} (h : IsS102 w0 W g f0 f1 f2) (ho : d.Q e W base ok v xs) (ht : ∀ q, q ∈ e :: d.E → q ≠ 102) : d.Q e W base (fun k => ok k ∧ k ≠ g) v xs := by
 obtain ⟨A0, c0, hb, hg, hr0⟩ := h
 exact Kd.Q_types ho hb ht
theorem IsS102.own_neQ {w0 W : World} {g : Nat} {f0 : List Int} {f1 : Int} {f2 : Int} {α : Type} {d : Kd α} {e : Nat} {base : Nat} {ok : Nat → Prop} {v : Value} {xs : List α} (h : IsS102 w0 W g f0 f1 f2) (ho : d.Q e W base ok v xs) (ht : e ≠ 102) : some g ≠ v.ownBlock := by
 obtain ⟨A0, c0, hb, hg, hr0⟩ := h
 exact Kd.Q_ne ho hb ht
theorem IsS102.apartS {w0 W : World} {g : Nat} {f0 : List Int} {f1 : Int} {f2 : Int} {α : Type} {d : Kd α} {e : Nat} {base : Nat} {ok : Nat → Prop} {v : Value} {xs : List α} (h : IsS102 w0 W g f0 f1 f2) (ho : d.S e W base ok v xs) (ht : ∀ q, q ∈ e :: d.E → q ≠ 102) : d.S e W base (fun k => ok k ∧ k ≠ g) v xs := by
 obtain ⟨A0, c0, hb, hg, hr0⟩ := h
 exact Kd.S_types ho hb ht
theorem IsS102.own_neS {w0 W : World} {g : Nat} {f0 : List Int} {f1 : Int} {f2 : Int} {α : Type} {d : Kd α} {e : Nat} {base : Nat} {ok : Nat → Prop} {v : Value} {xs : List α} (h : IsS102 w0 W g f0 f1 f2) (ho : d.S e W base ok v xs) (ht : e ≠ 102) : some g ≠ v.ownBlock := by
 obtain ⟨A0, c0, hb, hg, hr0⟩ := h
 exact Kd.S_ne ho hb ht
theorem IsS102.lt {w0 W : World} {g : Nat} {f0 : List Int} {f1 : Int} {f2 : Int} (h : IsS102 w0 W g f0 f1 f2) : g < W.heap.size := by
 obtain ⟨A0, c0, hb, hg, hr0⟩ := h
 exact blk_lt hb
theorem IsS102.ge {w0 W : World} {g : Nat} {f0 : List Int} {f1 : Int} {f2 : Int} (h : IsS102 w0 W g f0 f1 f2) : w0.heap.size ≤ g := by
 obtain ⟨A0, c0, hb, hg, hr0⟩ := h
 exact hg
theorem IsS102.ne_blk {w0 W : World} {g : Nat} {f0 : List Int} {f1 : Int} {f2 : Int} {a : Nat} {cs : Array Value} {t : TypeId} {fr : Nat × Nat} (h : IsS102 w0 W g f0 f1 f2) (hb2 : W.heap[a]? = some (.cells cs t fr)) (ht : t ≠ 102) : g ≠ a := by
 obtain ⟨A0, c0, hb, hg, hr0⟩ := h
 rintro rfl
 rw [hb] at hb2
 injection hb2 with hb2
 injection hb2 with _ ht2
 exact ht ht2.symm
theorem IsS102.far {w0 W : World} {g : Nat} {f0 : List Int} {f1 : Int} {f2 : Int} {p : Addr} (h : IsS102 w0 W g f0 f1 f2) (hne : g ≠ p.block) (u : Value) : IsS102 w0 (W.setCell p u) g f0 f1 f2 := by
 obtain ⟨A0, c0, hb, hg, hr0⟩ := h
 exact ⟨A0, c0, blk_far hb hne u, hg, hr0⟩
theorem cellS102_0 {W : World} {g : Nat} {A0 : Option Addr} {c0 : Nat} {f0 : List Int} {f1 : Int} {f2 : Int} (h : W.heap[g]? = some (.cells #[.slice A0 f0.length c0, .int .i64 f1, .int .i64 f2] 102 (0, 0))) : W.cell? ⟨g, 0, none⟩ = some (.slice A0 f0.length c0) := (blk_cell h 0).trans rfl
theorem cellS102_1 {W : World} {g : Nat} {A0 : Option Addr} {c0 : Nat} {f0 : List Int} {f1 : Int} {f2 : Int} (h : W.heap[g]? = some (.cells #[.slice A0 f0.length c0, .int .i64 f1, .int .i64 f2] 102 (0, 0))) : W.cell? ⟨g, 1, none⟩ = some (.int .i64 f1) := (blk_cell h 1).trans rfl
theorem IsS102.set_1 {w0 W : World} {g : Nat} {f0 : List Int} {f1 : Int} {f2 : Int} (h : IsS102 w0 W g f0 f1 f2) (x : Int) : IsS102 w0 (W.setCell ⟨g, 1, none⟩ (.int .i64 x)) g f0 x f2 := by
 obtain ⟨A0, c0, hb, hg, hr0⟩ := h
 exact ⟨A0, c0, by simpa using blk_set hb 1 (.int .i64 x), hg, hr0⟩
theorem cellS102_2 {W : World} {g : Nat} {A0 : Option Addr} {c0 : Nat} {f0 : List Int} {f1 : Int} {f2 : Int} (h : W.heap[g]? = some (.cells #[.slice A0 f0.length c0, .int .i64 f1, .int .i64 f2] 102 (0, 0))) : W.cell? ⟨g, 2, none⟩ = some (.int .i64 f2) := (blk_cell h 2).trans rfl
theorem IsS102.set_2 {w0 W : World} {g : Nat} {f0 : List Int} {f1 : Int} {f2 : Int} (h : IsS102 w0 W g f0 f1 f2) (x : Int) : IsS102 w0 (W.setCell ⟨g, 2, none⟩ (.int .i64 x)) g f0 f1 x := by
 obtain ⟨A0, c0, hb, hg, hr0⟩ := h
 exact ⟨A0, c0, by simpa using blk_set hb 2 (.int .i64 x), hg, hr0⟩
theorem IsS102.new (w0 W : World) (A0 : Option Addr) (c0 : Nat) (f0 : List Int) (f1 : Int) (f2 : Int) (hB : Below w0.heap.size w0 W) (hr0 : Kd.C (Kd.int .u8) w0 A0 f0.length f0) : IsS102 w0 (W.alloc (.cells #[.slice A0 f0.length c0, .int .i64 f1, .int .i64 f2] 102)) W.heap.size f0 f1 f2 := ⟨A0, c0, by simpa using heap_alloc_new W _, hB.size, hr0⟩
def Z50.f (s0_0 : List Int) (s0_1 : Int) (s0_2 : Int) : Option (Int × Int × Int) := if s0_1 < (s0_0.length : Int) then (if 0 ≤ s0_1 then (some (Go.bits .and .i64 (wrap64 ((Go.bits .and .i64 (Go.bits .xor .i64 ((wrap64 ((wrap64 (s0_2 * 6364136223846793005)) + 1442695040888963407)) / 8589934592) ((wrap64 ((wrap64 (s0_2 * 6364136223846793005)) + 1442695040888963407)) / 35184372088832)) 255) + (wrap64 (rd s0_0 s0_1)))) 255, wrap64 (s0_1 + 1), wrap64 ((wrap64 (s0_2 * 6364136223846793005)) + 1442695040888963407))) else (none)) else (some (Go.bits .and .i64 (Go.bits .xor .i64 ((wrap64 ((wrap64 (s0_2 * 6364136223846793005)) + 1442695040888963407)) / 8589934592) ((wrap64 ((wrap64 (s0_2 * 6364136223846793005)) + 1442695040888963407)) / 35184372088832)) 255, s0_1, wrap64 ((wrap64 (s0_2 * 6364136223846793005)) + 1442695040888963407)))
set_option maxHeartbeats 8000000 in
set_option maxRecDepth 100000 in
theorem Z50.calls (g : Nat) (s0_0 : List Int) (s0_1 : Int) (s0_2 : Int) (r1 : Int) (r2 : Int) (r3 : Int) (w0 w : World) (hI : IsS102 w0 w g s0_0 s0_1 s0_2) (hB : Below w0.heap.size w0 w) (h : Z50.f s0_0 s0_1 s0_2 = some (r1, r2, r3)) :
  Calls Try.prog 49 #[.pointer (some ⟨g, 0, none⟩)] w fun e w' => e = .returned (.int .i64 r1) ∧ IsS102 w0 w' g s0_0 r2 r3 ∧ Below w0.heap.size w0 w' ∧ KeepBut w w' g none := by
 have HI0 := A_ hI
 have HK := A_ (KeepBut.refl w g none)
 have HL := A_ hB.size
 clear hI
 have HW0 := A_ hB.size
 have HB := A_ hB
 clear hB
 have H := h
 unfold Z50.f at H
 clear h
 by_cases c2 : s0_1 < (s0_0.length : Int)
 ·rw [if_pos c2] at H
  have c2b0 := oC_ c2
  clear c2
  have c3 := cp_ H
  replace H := ca_ H
  have c3b0 := oC_ c3
  clear c3
  simp only [Option.some.injEq, Prod.mk.injEq] at H
  obtain ⟨rfl, rfl, rfl⟩ := H
  obtain ⟨ASz4_0, cSz4_0, HGz4, hgz4, HSz4_0⟩ := HI0.out
  have hcz4_0 := cellS102_0 HGz4
  have hcz4_1 := cellS102_1 HGz4
  have hcz4_2 := cellS102_2 HGz4
  have hfz4_1 := kD_ HGz4 1
  have hfz4_2 := kD_ HGz4 2
  clear HGz4 hgz4
  have p101 : 0 ≤ (s0_1 : Int) := oB_ qe_
  have q101 : s0_1 < (s0_0.length : Int) := oB_ qe_
  obtain ⟨ad101, e101, hx101_0⟩ := Kd.at_int HSz4_0 s0_1 p101 q101
  cases e101
  have hn101_0 : ad101.block ≠ g := Nat.ne_of_lt (Nat.lt_of_lt_of_le (by have := World.block_lt_of_cell? _ _ hx101_0; first | rwa [add_block] at this | exact this) (IsS102.ge HI0.out))
  replace hx101_0 := pw_cell_below HB.out hx101_0
  replace hx101_0 := (cell_far (p := ⟨g, 2, none⟩) (by first | (rw [add_block]; exact hn101_0) | (show (Addr.add _ _).block ≠ _; rw [add_block]; exact hn101_0) | exact hn101_0) (.int .i64 (wrap64 ((wrap64 (s0_2 * 6364136223846793005)) + 1442695040888963407)))).trans hx101_0
  (try have hy101_0 := fun (n_ : Nat) => (show (((w.drewN n_).setCell ⟨g, 2, none⟩ (.int .i64 (wrap64 ((wrap64 (s0_2 * 6364136223846793005)) + 1442695040888963407))))).cell? _ = some _ from hx101_0))
  clear hn101_0
  replace p101 := eq_true p101
  replace q101 := eq_true q101
  go_enter Try.func49, Try.ntmps49
  go_wp2
  repeat (go_quiet (fail); try go_wp2)
  go_ret
  exact ⟨qb_, hI_IsS102_HI0, hBI_, hK_⟩
 ·rw [if_neg c2] at H
  have c2b0 := oD_ c2
  clear c2
  simp only [Option.some.injEq, Prod.mk.injEq] at H
  obtain ⟨rfl, rfl, rfl⟩ := H
  obtain ⟨ASz5_0, cSz5_0, HGz5, hgz5, HSz5_0⟩ := HI0.out
  have hcz5_0 := cellS102_0 HGz5
  have hcz5_1 := cellS102_1 HGz5
  have hcz5_2 := cellS102_2 HGz5
  have hfz5_1 := kD_ HGz5 1
  have hfz5_2 := kD_ HGz5 2
  clear HGz5 hgz5
  go_enter Try.func49, Try.ntmps49
  go_wp2
  repeat (go_quiet (fail); try go_wp2)
  go_ret
  exact ⟨qb_, hI_IsS102_HI0, hBI_, hK_⟩
def Z61.l0 : Nat → List Int → Int → Int → Option (List Int × Int × Int)
 | 0, _, _, _ => none
 | k + 1, x0, x3, x4 => if x4 < (x0.length : Int) then (if x4 < 4000 then (if 0 ≤ x4 then (Z61.l0 k x0 (Go.bits .and .i64 (wrap64 ((wrap64 ((wrap64 (x3 * 109)) + (wrap64 (rd x0 x4)))) + 7)) 1073741823) (wrap64 (x4 + 1))) else (none)) else (some (x0, 0, x3))) else (some (x0, 0, x3))
def Z61.f (k : Nat) (l0 : List Int) : Option (List Int × Int × Int) := Z61.l0 k l0 (wrap64 (2073 + (l0.length : Int))) 0
theorem Z61.mono_l : ∀ k, (∀ y0 y1 y2, LeO (Z61.l0 k y0 y1 y2) (Z61.l0 (k + 1) y0 y1 y2))
 | 0 => fun _ _ _ r h => by simp [Z61.l0] at h
 | k + 1 => by
  have ih0 := Z61.mono_l k
  ·intro y0 y1 y2
   unfold Z61.l0
   repeat' first|exact ih0 _ _ _|exact lo_|refine LeO.ite ?_ ?_|refine LeO.bind ?_ (fun _ => ?_)
theorem Z61.mono : ∀ a0 k, LeO (Z61.f k a0) (Z61.f (k + 1) a0) := by
 intro a0 k
 have ih0 := Z61.mono_l k
 unfold Z61.f
 repeat' first|exact ih0 _ _ _|exact lo_|refine LeO.ite ?_ ?_|refine LeO.bind ?_ (fun _ => ?_)
set_option maxHeartbeats 8000000 in
set_option maxRecDepth 100000 in
theorem Z61.callsW (k : Nat) (A0 : Option Addr) (c0 : Nat) (l0 : List Int) (r1 : List Int) (r2 : Int) (r3 : Int) (w0 w : World) (hB : Below w0.heap.size w0 w) (hr0 : Kd.C (Kd.int .u8) w0 A0 l0.length l0) (hc0 : l0.length ≤ c0) (h : Z61.f k l0 = some (r1, r2, r3)) :
  Calls Try.prog 62 #[.slice A0 l0.length c0] w fun e w' => ∃ g_ : Nat, e = .returned (.pointer (some ⟨g_, 0, none⟩)) ∧ IsS102 w0 w' g_ r1 r2 r3 ∧ Below w0.heap.size w0 w' ∧ Below w.heap.size w w' ∧ w.heap.size ≤ g_ := by
 have hu102 := Try.underlying102
 have HR0 := A_ hr0
 have HC0 := A_ hc0
 clear hr0 hc0
 have HBW := A_ (Below.refl w.heap.size w)
 have HW0 := A_ hB.size
 have HB := A_ hB
 clear hB
 have H := h
 unfold Z61.f at H
 clear h
 have H' := A_ H
 clear H
 go_enter Try.func62, Try.ntmps62
 go_wp2
 go_loopg [3, 4] k (fun kq v3 v4 w' => ∃ (x3_1 : Int) (x4_1 : Int), v3 = .int .i64 x3_1 ∧ v4 = .int .i64 x4_1 ∧ Aside0 (Z61.l0 kq l0 x3_1 x4_1 = some (r1, r2, r3)) ∧ Aside0 (kq ≤ k) ∧ Aside0 (Below w0.heap.size w0 w') ∧ Aside0 (Below w.heap.size w w'))
 case atStart => exact ⟨(wrap64 (2073 + (l0.length : Int))), (0), qc_, qc_, H', ⟨nA_ _⟩, ⟨hB_⟩, ⟨by repeat (first | (with_reducible first | exact HBW.out | apply bA_ | apply bB_ | apply bC_) | exact HBW.out)⟩⟩
 case round =>
  clear H'
  obtain ⟨x3_1, x4_1, rfl, rfl, HA, HK1, HB, HBW⟩ := hrel
  cases gk with
  | zero => exact absurd HA.out (by simp [Z61.l0])
  | succ k1 =>
   have H := HA.out
   clear HA
   simp only [Z61.l0] at H
   by_cases c2 : x4_1 < (l0.length : Int)
   ·rw [if_pos c2] at H
    have c2b0 := oC_ c2
    clear c2
    by_cases c3 : x4_1 < 4000
    ·rw [if_pos c3] at H
     have c3b0 := oC_ c3
     clear c3
     have c4 := cp_ H
     replace H := ca_ H
     have c4b0 := oC_ c4
     clear c4
     have H' := A_ H
     clear H
     have p102 : 0 ≤ (x4_1 : Int) := oB_ qe_
     have q102 : x4_1 < (l0.length : Int) := oB_ qe_
     obtain ⟨ad102, e102, hx102_0⟩ := Kd.at_int HR0.out x4_1 p102 q102
     cases e102
     replace hx102_0 := pw_cell_below HB.out hx102_0
     replace p102 := eq_true p102
     replace q102 := eq_true q102
     go_wp2
     go_roundg k1
     case measure => have := HK1.out; omega
     case rel => exact ⟨(Go.bits .and .i64 (wrap64 ((wrap64 ((wrap64 (x3_1 * 109)) + (wrap64 (rd l0 x4_1)))) + 7)) 1073741823), (wrap64 (x4_1 + 1)), qc_, qc_, H', ⟨by have := HK1.out; omega⟩, ⟨hB_⟩, ⟨by repeat (first | (with_reducible first | exact HBW.out | apply bA_ | apply bB_ | apply bC_) | exact HBW.out)⟩⟩
    ·rw [if_neg c3] at H
     have c3b0 := oD_ c3
     clear c3
     simp only [Option.some.injEq, Prod.mk.injEq] at H
     obtain ⟨rfl, rfl, rfl⟩ := H
     go_wp2_with (first | ((with_reducible refine gB_ (N := 31) rfl ?_); refine bx_ 31 #[.slice A0 l0.length c0, .int .i64 0, .int .i64 x3_1] 102 ?_; intro gb103 hg w5 hbox hb; replace HB := b1_ hb; have BK103 := A_ hbox; have GW103 := A_ ((gx_ hg (bF_ (by repeat (first | (with_reducible first | exact HBW.out | apply bA_ | apply bB_ | apply bC_) | exact HBW.out))) : w.heap.size ≤ gb103)); have GE103 := A_ ((Nat.le_trans HW0.out (gx_ hg (bF_ (by repeat (first | (with_reducible first | exact HBW.out | apply bA_ | apply bB_ | apply bC_) | exact HBW.out))) : w.heap.size ≤ gb103) : w0.heap.size ≤ gb103)); replace HBW := A_ (bE_ HBW.out hb); clear hb hbox hg))
     go_ret
     exact ⟨_, rfl, (show IsS102 w0 _ gb103 l0 0 x3_1 from ⟨_, _, (kk_ BK103), GE103.out, HR0.out⟩), hB_, by repeat (first | (with_reducible first | exact HBW.out | apply bA_ | apply bB_ | apply bC_ | refine bD_ ?_ GW103.out) | exact HBW.out), GW103.out⟩
   ·rw [if_neg c2] at H
    have c2b0 := oD_ c2
    clear c2
    simp only [Option.some.injEq, Prod.mk.injEq] at H
    obtain ⟨rfl, rfl, rfl⟩ := H
    go_wp2_with (first | ((with_reducible refine gB_ (N := 31) rfl ?_); refine bx_ 31 #[.slice A0 l0.length c0, .int .i64 0, .int .i64 x3_1] 102 ?_; intro gb104 hg w6 hbox hb; replace HB := b1_ hb; have BK104 := A_ hbox; have GW104 := A_ ((gx_ hg (bF_ (by repeat (first | (with_reducible first | exact HBW.out | apply bA_ | apply bB_ | apply bC_) | exact HBW.out))) : w.heap.size ≤ gb104)); have GE104 := A_ ((Nat.le_trans HW0.out (gx_ hg (bF_ (by repeat (first | (with_reducible first | exact HBW.out | apply bA_ | apply bB_ | apply bC_) | exact HBW.out))) : w.heap.size ≤ gb104) : w0.heap.size ≤ gb104)); replace HBW := A_ (bE_ HBW.out hb); clear hb hbox hg))
    go_ret
    exact ⟨_, rfl, (show IsS102 w0 _ gb104 l0 0 x3_1 from ⟨_, _, (kk_ BK104), GE104.out, HR0.out⟩), hB_, by repeat (first | (with_reducible first | exact HBW.out | apply bA_ | apply bB_ | apply bC_ | refine bD_ ?_ GW104.out) | exact HBW.out), GW104.out⟩
theorem Z61.calls (k : Nat) (A0 : Option Addr) (c0 : Nat) (l0 : List Int) (r1 : List Int) (r2 : Int) (r3 : Int) (w0 w : World) (hB : Below w0.heap.size w0 w) (hr0 : Kd.C (Kd.int .u8) w0 A0 l0.length l0) (hc0 : l0.length ≤ c0) (h : Z61.f k l0 = some (r1, r2, r3)) :
  Calls Try.prog 62 #[.slice A0 l0.length c0] w fun e w' => ∃ g_ : Nat, e = .returned (.pointer (some ⟨g_, 0, none⟩)) ∧ IsS102 w0 w' g_ r1 r2 r3 ∧ Below w0.heap.size w0 w' ∧ Below w.heap.size w w' := by
 exact (Z61.callsW k A0 c0 l0 r1 r2 r3 w0 w hB hr0 hc0 h).mono fun e w' ⟨g, h1, h2, h3, h4, _⟩ => ⟨g, h1, h2, h3, h4⟩
def Z42.f (s0_0 : List Int) (s0_1 : Int) (s0_2 : Int) (a1 : Int) : Option (Int × Int × Int) := if a1 ≤ 0 then (some (0, s0_1, s0_2)) else (if a1 ≤ 256 then ((Z50.f s0_0 s0_1 s0_2).bind fun bt413 => (if a1 = 0 then (none) else (some (Int.tmod bt413.1 a1, bt413.2.1, bt413.2.2)))) else ((Z50.f s0_0 s0_1 s0_2).bind fun bt416 => ((Z50.f s0_0 bt416.2.1 bt416.2.2).bind fun bt419 => ((Z50.f s0_0 bt419.2.1 bt419.2.2).bind fun bt422 => ((Z50.f s0_0 bt422.2.1 bt422.2.2).bind fun bt425 => (if a1 = 0 then (none) else (some (Int.tmod (wrap64 ((wrap64 ((wrap64 ((wrap64 (bt416.1 * 16777216)) + (wrap64 (bt419.1 * 65536)))) + (wrap64 (bt422.1 * 256)))) + bt425.1)) a1, bt425.2.1, bt425.2.2))))))))
set_option maxHeartbeats 8000000 in
set_option maxRecDepth 100000 in
theorem Z42.calls (g : Nat) (s0_0 : List Int) (s0_1 : Int) (s0_2 : Int) (a1 : Int) (r1 : Int) (r2 : Int) (r3 : Int) (w0 w : World) (hI : IsS102 w0 w g s0_0 s0_1 s0_2) (hB : Below w0.heap.size w0 w) (h : Z42.f s0_0 s0_1 s0_2 a1 = some (r1, r2, r3)) :
  Calls Try.prog 63 #[.pointer (some ⟨g, 0, none⟩), .int .i64 a1] w fun e w' => e = .returned (.int .i64 r1) ∧ IsS102 w0 w' g s0_0 r2 r3 ∧ Below w0.heap.size w0 w' ∧ KeepBut w w' g none := by
 have HI0 := A_ hI
 have HK := A_ (KeepBut.refl w g none)
 have HL := A_ hB.size
 clear hI
 have HW0 := A_ hB.size
 have HB := A_ hB
 clear hB
 have H := h
 unfold Z42.f at H
 clear h
 by_cases c3 : a1 ≤ 0
 ·rw [if_pos c3] at H
  have c3b0 := oC_ c3
  clear c3
  simp only [Option.some.injEq, Prod.mk.injEq] at H
  obtain ⟨rfl, rfl, rfl⟩ := H
  go_enter Try.func63, Try.ntmps63
  go_wp2
  go_ret
  exact ⟨qb_, hI_IsS102_HI0, hBI_, hK_⟩
 ·rw [if_neg c3] at H
  have c3b0 := oD_ c3
  clear c3
  by_cases c4 : a1 ≤ 256
  ·rw [if_pos c4] at H
   have c4b0 := oC_ c4
   clear c4
   obtain ⟨⟨t413, t414, t415⟩, A5, H⟩ := bi_ H
   try dsimp only at H
   by_cases c6 : a1 = 0
   ·rw [if_pos c6] at H
    exact absurd H (by simp)
   ·rw [if_neg c6] at H
    have c6b0 : (a1 == 0) = false := beq_eq_false_iff_ne.mpr c6
    have c6b1 : (a1 != 0) = true := bne_iff_ne.mpr c6
    simp only [Option.some.injEq, Prod.mk.injEq] at H
    obtain ⟨rfl, rfl, rfl⟩ := H
    go_enter Try.func63, Try.ntmps63
    go_wp2_with (first | ((with_reducible refine gA_ (f := 49) rfl ?_); refine gL_ (some 14) Try.func49 #[.pointer (some ⟨g, 0, none⟩)] rfl qa_ ?_; (with_reducible refine (Z50.calls g s0_0 s0_1 s0_2 t413 t414 t415 w0 _ ?side1 ?side2 A5.out).mono ?_); (case side1 => repeat (first | (with_reducible first | exact HI0.out | apply IsS102.alloc | apply IsS102.drewN | apply IsS102.drew | apply IsS102.set_1 | apply IsS102.set_2) | exact HI0.out)); (case side2 => repeat (first | (with_reducible first | exact HB.out | apply bA_ | apply bB_ | apply bC_ | refine bD_ ?_ (IsS102.ge HI0.out)) | exact HB.out)); rintro e w7 ⟨rfl, hi, hb, hk⟩; refine ⟨_, rfl, ?_⟩; replace HK := A_ (KeepBut.trans hK_ hk (.inl rfl)); replace HB := A_ hb; replace HI0 := A_ hi; clear hb hk hi))
    go_ret
    exact ⟨qb_, hI_IsS102_HI0, hBI_, hK_⟩
  ·rw [if_neg c4] at H
   have c4b0 := oD_ c4
   clear c4
   obtain ⟨⟨t416, t417, t418⟩, A8, H⟩ := bi_ H
   try dsimp only at H
   obtain ⟨⟨t419, t420, t421⟩, A9, H⟩ := bi_ H
   try dsimp only at H
   obtain ⟨⟨t422, t423, t424⟩, A10, H⟩ := bi_ H
   try dsimp only at H
   obtain ⟨⟨t425, t426, t427⟩, A11, H⟩ := bi_ H
   try dsimp only at H
   by_cases c12 : a1 = 0
   ·rw [if_pos c12] at H
    exact absurd H (by simp)
   ·rw [if_neg c12] at H
    have c12b0 : (a1 == 0) = false := beq_eq_false_iff_ne.mpr c12
    have c12b1 : (a1 != 0) = true := bne_iff_ne.mpr c12
    simp only [Option.some.injEq, Prod.mk.injEq] at H
    obtain ⟨rfl, rfl, rfl⟩ := H
    go_enter Try.func63, Try.ntmps63
    go_wp2_with (first | ((with_reducible refine gA_ (f := 49) rfl ?_); refine gL_ (some 18) Try.func49 #[.pointer (some ⟨g, 0, none⟩)] rfl qa_ ?_; (with_reducible refine (Z50.calls g s0_0 s0_1 s0_2 t416 t417 t418 w0 _ ?side1 ?side2 A8.out).mono ?_); (case side1 => repeat (first | (with_reducible first | exact HI0.out | apply IsS102.alloc | apply IsS102.drewN | apply IsS102.drew | apply IsS102.set_1 | apply IsS102.set_2) | exact HI0.out)); (case side2 => repeat (first | (with_reducible first | exact HB.out | apply bA_ | apply bB_ | apply bC_ | refine bD_ ?_ (IsS102.ge HI0.out)) | exact HB.out)); rintro e w13 ⟨rfl, hi, hb, hk⟩; refine ⟨_, rfl, ?_⟩; replace HK := A_ (KeepBut.trans hK_ hk (.inl rfl)); replace HB := A_ hb; replace HI0 := A_ hi; clear hb hk hi) | ((with_reducible refine gA_ (f := 49) rfl ?_); refine gL_ (some 20) Try.func49 #[.pointer (some ⟨g, 0, none⟩)] rfl qa_ ?_; (with_reducible refine (Z50.calls g s0_0 t417 t418 t419 t420 t421 w0 _ ?side1 ?side2 A9.out).mono ?_); (case side1 => repeat (first | (with_reducible first | exact HI0.out | apply IsS102.alloc | apply IsS102.drewN | apply IsS102.drew | apply IsS102.set_1 | apply IsS102.set_2) | exact HI0.out)); (case side2 => repeat (first | (with_reducible first | exact HB.out | apply bA_ | apply bB_ | apply bC_ | refine bD_ ?_ (IsS102.ge HI0.out)) | exact HB.out)); rintro e w14 ⟨rfl, hi, hb, hk⟩; refine ⟨_, rfl, ?_⟩; replace HK := A_ (KeepBut.trans hK_ hk (.inl rfl)); replace HB := A_ hb; replace HI0 := A_ hi; clear hb hk hi) | ((with_reducible refine gA_ (f := 49) rfl ?_); refine gL_ (some 22) Try.func49 #[.pointer (some ⟨g, 0, none⟩)] rfl qa_ ?_; (with_reducible refine (Z50.calls g s0_0 t420 t421 t422 t423 t424 w0 _ ?side1 ?side2 A10.out).mono ?_); (case side1 => repeat (first | (with_reducible first | exact HI0.out | apply IsS102.alloc | apply IsS102.drewN | apply IsS102.drew | apply IsS102.set_1 | apply IsS102.set_2) | exact HI0.out)); (case side2 => repeat (first | (with_reducible first | exact HB.out | apply bA_ | apply bB_ | apply bC_ | refine bD_ ?_ (IsS102.ge HI0.out)) | exact HB.out)); rintro e w15 ⟨rfl, hi, hb, hk⟩; refine ⟨_, rfl, ?_⟩; replace HK := A_ (KeepBut.trans hK_ hk (.inl rfl)); replace HB := A_ hb; replace HI0 := A_ hi; clear hb hk hi) | ((with_reducible refine gA_ (f := 49) rfl ?_); refine gL_ (some 24) Try.func49 #[.pointer (some ⟨g, 0, none⟩)] rfl qa_ ?_; (with_reducible refine (Z50.calls g s0_0 t423 t424 t425 t426 t427 w0 _ ?side1 ?side2 A11.out).mono ?_); (case side1 => repeat (first | (with_reducible first | exact HI0.out | apply IsS102.alloc | apply IsS102.drewN | apply IsS102.drew | apply IsS102.set_1 | apply IsS102.set_2) | exact HI0.out)); (case side2 => repeat (first | (with_reducible first | exact HB.out | apply bA_ | apply bB_ | apply bC_ | refine bD_ ?_ (IsS102.ge HI0.out)) | exact HB.out)); rintro e w16 ⟨rfl, hi, hb, hk⟩; refine ⟨_, rfl, ?_⟩; replace HK := A_ (KeepBut.trans hK_ hk (.inl rfl)); replace HB := A_ hb; replace HI0 := A_ hi; clear hb hk hi))
    go_ret
    exact ⟨qb_, hI_IsS102_HI0, hBI_, hK_⟩
def Z66.f (a0 : Int) (a1 : Int) (a2 : Int) : Option (Bool) := if a0 ≥ a1 then (some (decide (a0 ≤ a2))) else (some false)
set_option maxHeartbeats 8000000 in
set_option maxRecDepth 100000 in
theorem Z66.calls (a0 : Int) (a1 : Int) (a2 : Int) (r : Bool) (w : World) (h : Z66.f a0 a1 a2 = some r) :
  Calls Try.prog 83 #[.int .i64 a0, .int .i64 a1, .int .i64 a2] w fun e w' => e = .returned (.bool r) ∧ Drawn0 w w' := by
 have H := h
 unfold Z66.f at H
 clear h
 by_cases c4 : a0 ≥ a1
 ·rw [if_pos c4] at H
  have c4b0 : decide (a1 ≤ a0) = true := oC_ c4
  clear c4
  obtain rfl := Option.some.inj H
  go_enter Try.func83, Try.ntmps83
  go_wp2
  go_ret
  exact ⟨qc_, by repeat (first | exact Drawn0.refl _ | apply Drawn0.step)⟩
 ·rw [if_neg c4] at H
  have c4b0 : decide (a1 ≤ a0) = false := oD_ c4
  clear c4
  obtain rfl := Option.some.inj H
  go_enter Try.func83, Try.ntmps83
  go_wp2
  go_ret
  exact ⟨qc_, by repeat (first | exact Drawn0.refl _ | apply Drawn0.step)⟩
end Go.Proofs.Ytoijcallajegfaa.A
end
section
namespace Go.Proofs.Ytoijcallajegfaa.A
open Go.RowKit Go.Proofs.YtoijcallajegfaaW.PrintWords Go.Proofs.YtoijcallajegfaaW.PrintLast Go.Proofs.YtoijcallajegfaaW.PrintMore
attribute [local go_sem] max2_int min2_int max_two min_two max_three min_three max_four min_four
set_option linter.unusedVariables false
set_option linter.unusedSimpArgs false
mutual
def Z49.j0 : Nat → Int → Int → Bool → Option (List Int × List Int × Bool)
 | 0, _, _, _ => none
 | k + 1, x0, x1, x21 => if x21 = true then (some (([] : List Int), ([] : List Int), false)) else (Z49.l0 k x0 x1 0 ([] : List Int) ([] : List Int))
def Z49.l0 : Nat → Int → Int → Int → List Int → List Int → Option (List Int × List Int × Bool)
 | 0, _, _, _, _, _ => none
 | k + 1, x0, x1, x7, x470000, x470001 => if x7 < (wrap64 (x0 * x1)) then (if x0 = 0 then (none) else (if x470000.length < 17592186044416 then (if (wrap64 (x0 * x1)) = 0 then (none) else (if x470001.length < 17592186044416 then (Z49.l0 k x0 x1 (wrap64 (x7 + 1)) (x470000 ++ [wrap64 ((wrap64 ((wrap64 (Int.tdiv x7 x0)) * x0)) + (Int.tmod (wrap64 ((Int.tmod x7 x0) + 1)) x0))]) (x470001 ++ [Int.tmod (wrap64 (x7 + x0)) (wrap64 (x0 * x1))])) else (none))) else (none))) else (some (x470000, x470001, true))
end
def Z49.f (k : Nat) (a0 : Int) (a1 : Int) : Option (List Int × List Int × Bool) := (Z66.f a0 1 24).bind fun t467 => (if t467 = true then ((Z66.f a1 1 24).bind fun t468 => (if t468 = true then (Z49.j0 k a0 a1 (decide ((wrap64 (a0 * a1)) > 24))) else (Z49.j0 k a0 a1 true))) else (Z49.j0 k a0 a1 true))
theorem Z49.mono_l : ∀ k, (∀ y0 y1 y2, LeO (Z49.j0 k y0 y1 y2) (Z49.j0 (k + 1) y0 y1 y2)) ∧ (∀ y0 y1 y2 y3 y4, LeO (Z49.l0 k y0 y1 y2 y3 y4) (Z49.l0 (k + 1) y0 y1 y2 y3 y4))
 | 0 => ⟨fun _ _ _ r h => by simp [Z49.j0] at h, fun _ _ _ _ _ r h => by simp [Z49.l0] at h⟩
 | k + 1 => by
  obtain ⟨ih0, ih1⟩ := Z49.mono_l k
  refine ⟨?_, ?_⟩
  ·intro y0 y1 y2
   unfold Z49.j0
   repeat' first|exact ih0 _ _ _|exact ih1 _ _ _ _ _|exact lo_|refine LeO.ite ?_ ?_|refine LeO.bind ?_ (fun _ => ?_)
  ·intro y0 y1 y2 y3 y4
   unfold Z49.l0
   repeat' first|exact ih0 _ _ _|exact ih1 _ _ _ _ _|exact lo_|refine LeO.ite ?_ ?_|refine LeO.bind ?_ (fun _ => ?_)
theorem Z49.mono : ∀ a0 a1 k, LeO (Z49.f k a0 a1) (Z49.f (k + 1) a0 a1) := by
 intro a0 a1 k
 obtain ⟨ih0, ih1⟩ := Z49.mono_l k
 unfold Z49.f
 repeat' first|exact ih0 _ _ _|exact ih1 _ _ _ _ _|exact lo_|refine LeO.ite ?_ ?_|refine LeO.bind ?_ (fun _ => ?_)
def Z49.T7 : Bool × List (List Nat × List Nat) := (true, [([], []), ([0], [0]), ([], []), ([], []), ([2, 3], [2, 3]), ([], []), ([4, 5], [4, 5]), ([], []), ([], []), ([7, 8], [7, 8]), ([9], [9]), ([], []), ([10, 11], [10, 11]), ([6, 12], [6, 12]), ([13], [13]), ([1, 14], [1, 14]), ([0, 1, 2, 3, 4, 5, 6, 7, 8, 9, 10, 11, 12, 13, 14, 15], []), ([16, 15, 15, 0, 1, 2, 3, 4, 5, 6, 7, 8, 9, 10, 11, 12, 13, 14, 15], [15, 16])])
def Z49.B7 : List Nat := [0, 1, 0, 0, 12, 0, 60, 0, 0, 384, 896, 0, 3968, 8188, 16380, 32767, 65535, 131071]
theorem Z49.tab7 : rtab .any (opsOf Try.f64 7) = Z49.T7 := by kernel_rfl
theorem Z49.bits7 : waitsOk Z49.T7.2 Z49.B7 = true := by kernel_rfl
def Z49.T8 : Bool × List (List Nat × List Nat) := (true, [([], []), ([0], [0]), ([], []), ([], []), ([2, 3], [2, 3]), ([], []), ([], []), ([5, 6], [5, 6]), ([4, 7], [4, 7]), ([8], [8]), ([1, 9], [1, 9]), ([0, 1, 2, 3, 4, 5, 6, 7, 8, 9, 10], []), ([11, 10, 10, 0, 1, 2, 3, 4, 5, 6, 7, 8, 9, 10], [10, 11])])
def Z49.B8 : List Nat := [0, 1, 0, 0, 12, 0, 0, 96, 252, 508, 1023, 2047, 4095]
theorem Z49.tab8 : rtab .any (opsOf Try.f64 8) = Z49.T8 := by kernel_rfl
theorem Z49.bits8 : waitsOk Z49.T8.2 Z49.B8 = true := by kernel_rfl
set_option maxHeartbeats 8000000 in
set_option maxRecDepth 100000 in
theorem Z49.calls (k : Nat) (a0 : Int) (a1 : Int) (r1 : List Int) (r2 : List Int) (r3 : Bool) (w : World) (h : Z49.f k a0 a1 = some (r1, r2, r3)) :
  Calls Try.prog 64 #[.int .i64 a0, .int .i64 a1] w fun e w' => ∃ v0_ v1_ : Value, e = .returned (.tuple #[.agg #[v0_, v1_], .bool r3]) ∧ Kd.R (Kd.int .i64) 3 w' w.heap.size (fun k_ => some k_ ≠ (v1_ : Value).ownBlock) v0_ r1 ∧ Kd.R (Kd.int .i64) 3 w' w.heap.size (fun k_ => some k_ ≠ (v0_ : Value).ownBlock) v1_ r2 ∧ Below w.heap.size w w' := by
 have hu33 := Try.underlying33
 have HB := A_ (Below.refl w.heap.size w)
 have H := h
 unfold Z49.f at H
 clear h
 have HC3 := A_ H
 clear H
 go_enter Try.func64, Try.ntmps64
 go_upto_region 1 with (first | ((with_reducible refine gB_ (N := 4) rfl ?_); refine bx_ 4 #[.slice none 0 0, .slice none 0 0] 33 ?_; intro gb466 hg w4 hbox hb; have BK466 := A_ hbox; have GW466 := gw_ w hg; have GE466 := GW466; replace HB := b1_ hb; clear hb hbox hg))
 (try simp only [Act.put, sA_, sB_, sC_])
 go_cut [21] (fun v21 wc => ∃ (kq : Nat) (x21_2 : Bool), v21 = .bool x21_2 ∧ Aside0 (Z49.j0 kq a0 a1 x21_2 = some (r1, r2, r3)) ∧ Aside0 (kq ≤ k) ∧ Aside0 (wc.heap[gb466]? = some (.cells #[(.slice none 0 0), (.slice none 0 0)] 33 (0, 0))) ∧ Aside0 (Below w.heap.size w wc))
 case first =>
  have H := HC3.out
  clear HC3
  obtain ⟨t467, A5, H⟩ := bi_ H
  by_cases c6 : t467 = true
  ·subst c6
   rw [if_pos rfl] at H
   obtain ⟨t468, A7, H⟩ := bi_ H
   by_cases c8 : t468 = true
   ·subst c8
    rw [if_pos rfl] at H
    have H' := A_ H
    clear H
    go_wp2_with (first | ((with_reducible refine gA_ (f := 83) rfl ?_); refine gL_ (some 9) Try.func83 #[.int .i64 a0, .int .i64 1, .int .i64 24] rfl qa_ ?_; (with_reducible refine (Z66.calls a0 1 24 true _ A5.out).mono ?_); rintro e w' ⟨rfl, ⟨nd, rfl⟩⟩; refine ⟨_, rfl, ?_⟩) | (go_at_call 83; (with_reducible refine (Z66.calls a1 1 24 true _ A7.out).mono ?_); rintro e w' ⟨rfl, ⟨nd, rfl⟩⟩))
    go_meet
    case rel => exact ⟨_, (decide ((wrap64 (a0 * a1)) > 24)), qc_, H', ⟨qd_⟩, ⟨(kk_ BK466)⟩, ⟨hB_⟩⟩
   ·replace c8 := Bool.eq_false_iff.mpr c8
    subst c8
    have H1 : (Z49.j0 k a0 a1 true) = some (r1, r2, r3) := by rw [if_neg (show ¬ (false = true) by decide)] at H; exact H
    clear H
    have H := H1
    clear H1
    have H' := A_ H
    clear H
    go_wp2_with (first | ((with_reducible refine gA_ (f := 83) rfl ?_); refine gL_ (some 9) Try.func83 #[.int .i64 a0, .int .i64 1, .int .i64 24] rfl qa_ ?_; (with_reducible refine (Z66.calls a0 1 24 true _ A5.out).mono ?_); rintro e w' ⟨rfl, ⟨nd, rfl⟩⟩; refine ⟨_, rfl, ?_⟩) | (go_at_call 83; (with_reducible refine (Z66.calls a1 1 24 false _ A7.out).mono ?_); rintro e w' ⟨rfl, ⟨nd, rfl⟩⟩))
    go_meet
    case rel => exact ⟨_, (true), qc_, H', ⟨qd_⟩, ⟨(kk_ BK466)⟩, ⟨hB_⟩⟩
  ·replace c6 := Bool.eq_false_iff.mpr c6
   subst c6
   have H1 : (Z49.j0 k a0 a1 true) = some (r1, r2, r3) := by rw [if_neg (show ¬ (false = true) by decide)] at H; exact H
   clear H
   have H := H1
   clear H1
   have H' := A_ H
   clear H
   go_wp2_with (first | ((with_reducible refine gA_ (f := 83) rfl ?_); refine gL_ (some 9) Try.func83 #[.int .i64 a0, .int .i64 1, .int .i64 24] rfl qa_ ?_; (with_reducible refine (Z66.calls a0 1 24 false _ A5.out).mono ?_); rintro e w' ⟨rfl, ⟨nd, rfl⟩⟩; refine ⟨_, rfl, ?_⟩))
   go_meet
   case rel => exact ⟨_, (true), qc_, H', ⟨qd_⟩, ⟨(kk_ BK466)⟩, ⟨hB_⟩⟩
 case rest =>
  clear HC3
  obtain ⟨kq, x21_2, rfl, HA, HJ2, BK466, HB⟩ := hcut
  cases kq with
  | zero => exact absurd HA.out (by simp [Z49.j0])
  | succ kj2 =>
   have H := HA.out
   clear HA
   simp only [Z49.j0] at H
   by_cases c9 : x21_2 = true
   ·subst c9
    rw [if_pos rfl] at H
    simp only [Option.some.injEq, Prod.mk.injEq] at H
    obtain ⟨rfl, rfl, rfl⟩ := H
    obtain ⟨hcz10_0, hcz10_1, hfz10_0, hfz10_1⟩ := c2_ BK466
    go_wp2
    refine bodyPost_ret (results_ct rfl _ _ gb466 33 #[.slice none 0 0, .slice none 0 0] (0, 0) _ rfl qp_ Try.underlying33 rfl (by kernel_rfl)) rfl ?_
    exact ⟨_, _, qb_, by first | exact Kd.R_nil _ _ _ _ _ | exact Kd.N_nil _ _ _ _ _ | exact Kd.V_nil _ _ _ _ _ | exact Kd.Q_nil _ _ _ _ _ | exact Kd.S_nil _ _ _ _ _, by first | exact Kd.R_nil _ _ _ _ _ | exact Kd.N_nil _ _ _ _ _ | exact Kd.V_nil _ _ _ _ _ | exact Kd.Q_nil _ _ _ _ _ | exact Kd.S_nil _ _ _ _ _, hB_⟩
   ·replace c9 := Bool.eq_false_iff.mpr c9
    subst c9
    have H1 : (Z49.l0 kj2 a0 a1 0 ([] : List Int) ([] : List Int)) = some (r1, r2, r3) := by rw [if_neg (show ¬ (false = true) by decide)] at H; exact H
    clear H
    have H := H1
    clear H1
    have H' := A_ H
    clear H
    go_wp2_with (first | ((with_reducible refine gB_ (N := 6) rfl ?_); refine bx_ 6 #[.slice none 0 0, .slice none 0 0] 33 ?_; intro gb469 hg w11 hbox hb; have BK469 := A_ hbox; have GW469 := gw_ w hg; have GE469 := GW469; replace HB := b1_ hb; have NB466_469 := gN_ BK466 hg; have NB469_466 := gP_ BK466 hg; replace BK466 := bb_ BK466 hb; clear hb hbox hg; have hnb12 := NB469_466.out; have hnc12 := NB466_469.out; obtain ⟨hcz13_0, hcz13_1, hfz13_0, hfz13_1⟩ := c2_ BK469))
    go_loopg [7] kj2 (fun kq v7 w' => ∃ (x7_2 : Int) (x470000_2 : List Int) (x470001_2 : List Int) (u470000 : Value) (u470001 : Value), v7 = .int .i64 x7_2 ∧ Aside0 (Z49.l0 kq a0 a1 x7_2 x470000_2 x470001_2 = some (r1, r2, r3)) ∧ Aside0 (kq ≤ kj2) ∧ Aside0 (Kd.R (Kd.int .i64) 3 w' w.heap.size (fun k_ => some k_ ≠ (u470001 : Value).ownBlock) u470000 x470000_2) ∧ Aside0 (Kd.R (Kd.int .i64) 3 w' w.heap.size (fun k_ => some k_ ≠ (u470000 : Value).ownBlock) u470001 x470001_2) ∧ Aside0 (w'.heap[gb466]? = some (.cells #[(.slice none 0 0), (.slice none 0 0)] 33 (0, 0))) ∧ Aside0 (w'.heap[gb469]? = some (.cells #[u470000, u470001] 33 (0, 0))) ∧ Aside0 (Below w.heap.size w w'))
    case atStart => exact ⟨(0), (([] : List Int)), (([] : List Int)), (.slice none 0 0), (.slice none 0 0), qc_, H', ⟨nA_ _⟩, ⟨by first | exact Kd.R_nil _ _ _ _ _ | exact Kd.N_nil _ _ _ _ _ | exact Kd.V_nil _ _ _ _ _ | exact Kd.Q_nil _ _ _ _ _ | exact Kd.S_nil _ _ _ _ _⟩, ⟨by first | exact Kd.R_nil _ _ _ _ _ | exact Kd.N_nil _ _ _ _ _ | exact Kd.V_nil _ _ _ _ _ | exact Kd.Q_nil _ _ _ _ _ | exact Kd.S_nil _ _ _ _ _⟩, ⟨by (with_reducible repeat (first | refine kA_ ?_ _ | refine kB_ ?_ | refine kC_ ?_ _)); refine blk_far ?_ NB466_469.out _; (with_reducible repeat (first | refine kA_ ?_ _ | refine kB_ ?_ | refine kC_ ?_ _)); refine blk_far ?_ NB466_469.out _; (with_reducible repeat (first | refine kA_ ?_ _ | refine kB_ ?_ | refine kC_ ?_ _)); exact BK466.out⟩, ⟨qp_⟩, ⟨hB_⟩⟩
    case round =>
     clear H'
     obtain ⟨x7_2, x470000_2, x470001_2, u470000, u470001, rfl, HA, HK2, HO_470000, HO_470001, BK466, BK469, HB⟩ := hrel
     cases gk with
     | zero => exact absurd HA.out (by simp [Z49.l0])
     | succ k2 =>
      have H := HA.out
      clear HA
      simp only [Z49.l0] at H
      by_cases c14 : x7_2 < (wrap64 (a0 * a1))
      ·rw [if_pos c14] at H
       have c14b0 := oC_ c14
       clear c14
       by_cases c15 : a0 = 0
       ·rw [if_pos c15] at H
        exact absurd H (by simp)
       ·rw [if_neg c15] at H
        have c15b0 : (a0 == 0) = false := beq_eq_false_iff_ne.mpr c15
        have c15b1 : (a0 != 0) = true := bne_iff_ne.mpr c15
        have c16 := cp_ H
        replace H := ca_ H
        have LMc16 := A_ c16
        clear c16
        obtain ⟨y470, hy470⟩ : ∃ y_ : List Int, y_ = (x470000_2 ++ [wrap64 ((wrap64 ((wrap64 (Int.tdiv x7_2 a0)) * a0)) + (Int.tmod (wrap64 ((Int.tmod x7_2 a0) + 1)) a0))]) := ⟨_, rfl⟩
        replace H : (if (wrap64 (a0 * a1)) = 0 then (none) else (if x470001_2.length < 17592186044416 then (Z49.l0 k2 a0 a1 (wrap64 (x7_2 + 1)) y470 (x470001_2 ++ [Int.tmod (wrap64 (x7_2 + a0)) (wrap64 (a0 * a1))])) else (none))) = some (r1, r2, r3) := by first | (rw [hy470]; exact H) | exact H
        have Ny470 := A_ hy470
        clear hy470
        by_cases c17 : (wrap64 (a0 * a1)) = 0
        ·rw [if_pos c17] at H
         exact absurd H (by simp)
        ·rw [if_neg c17] at H
         have c17b0 : ((wrap64 (a0 * a1)) == 0) = false := beq_eq_false_iff_ne.mpr c17
         have c17b1 : ((wrap64 (a0 * a1)) != 0) = true := bne_iff_ne.mpr c17
         have c18 := cp_ H
         replace H := ca_ H
         have LMc18 := A_ c18
         clear c18
         obtain ⟨y473, hy473⟩ : ∃ y_ : List Int, y_ = (x470001_2 ++ [Int.tmod (wrap64 (x7_2 + a0)) (wrap64 (a0 * a1))]) := ⟨_, rfl⟩
         replace H : (Z49.l0 k2 a0 a1 (wrap64 (x7_2 + 1)) y470 y473) = some (r1, r2, r3) := by first | (rw [hy473]; exact H) | exact H
         have Ny473 := A_ hy473
         clear hy473
         have H' := A_ H
         clear H
         try go_wp2
         replace HO_470000 := A_ (rC_ HO_470000.out)
         replace HO_470001 := A_ (rC_ HO_470001.out)
         replace BK466 := A_ (kB_ BK466.out)
         replace BK469 := A_ (kB_ BK469.out)
         replace HB := A_ (bC_ HB.out)
         refine start_ (n := 18) (S := fun w' => w'.cell? ⟨gb469, 0, none⟩ = some (u470000) ∧ w'.cell? ⟨gb469, 1, none⟩ = some (u470001)) (ds := [17]) (bl_ 18 0) (by kernel_rfl) rfl (by kernel_rfl) ⟨cz0_ BK469, cz1_ BK469⟩ (fun hHeld => ?_); refine with_tabW Z49.tab7 Z49.bits7 (fun HT_ HW_ => ?_)
         generalize wr.drew = w19 at HO_470000 HO_470001 BK466 BK469 HB hHeld ⊢
         refine pu_ 0 (some 31) (bl_ 18 1) HT_ ?_
         refine pu_ 2 (some 33) (bl_ 18 5) HT_ ?_
         refine pu_ 3 (some 34) (bl_ 18 13) HT_ ?_
         refine pu_ 4 (some 35) (bl_ 18 29) HT_ ?_
         refine pu_ 5 (some 36) (bl_ 18 61) HT_ ?_
         refine pu_ 6 (some 37) (bl_ 18 125) HT_ ?_
         refine pu_ 7 (some 38) (bl_ 18 253) HT_ ?_
         refine pu_ 8 (some 39) (bl_ 18 509) HT_ ?_
         refine pu_ 9 (some 40) (bl_ 18 1021) HT_ ?_
         refine pu_ 10 (some 41) (bl_ 18 2045) HT_ ?_
         refine pu_ 11 (some 42) (bl_ 18 4093) HT_ ?_
         refine pu_ 12 (some 43) (bl_ 18 8189) HT_ ?_
         refine pu_ 13 (some 44) (bl_ 18 16381) HT_ ?_
         refine ta_ 1 (some 32) (bl_ 18 16383) HT_ HW_ hHeld ?_
         refine on_ 14 (some 45) (bl_ 18 32767) HT_ (fun K hK => ?_)
         refine value_ (w1 := ?_) (v := ?_) (by rfl) rfl ?_ ?_
         rotate_left 2
         ·go_simp
          constructor
          ·rfl
          ·rfl
         refine hK.out _ _ ⟨(blk_cell (kC_ BK469.out _) 0).trans rfl, (blk_cell (kC_ BK469.out _) 1).trans rfl⟩ (fun hHeld => ?_)
         clear hK K
         refine no_ (some 45) ?_
         refine on_ 15 (some 46) (bl_ 18 65535) HT_ (fun K hK => ?_)
         refine Kd.R_append_step (Kd.int .i64) (w0 := w) w.heap.size (by rfl) (.tmp 32) (.tmp 45) 23 3 (.int .i64 0) 8 rfl Try.underlying23 info3 rfl (by decide) (by omega) u470000 x470000_2 (wrap64 ((wrap64 ((wrap64 (Int.tdiv x7_2 a0)) * a0)) + (Int.tmod (wrap64 ((Int.tmod x7_2 a0) + 1)) a0))) [.int .i64 (wrap64 ((wrap64 ((wrap64 (Int.tdiv x7_2 a0)) * a0)) + (Int.tmod (wrap64 ((Int.tmod x7_2 a0) + 1)) a0)))] (fun k_ => some k_ ≠ (u470001 : Value).ownBlock) (fun _ => False) rfl rfl ?aP (fun _ hk => hk.elim) ?aF ?aO ?aB ?aS ?aL ?_
         (case aP => exact rfl)
         (case aB => exact hB_)
         (case aF => exact (fun k_ hk => Kd.fresh' (Kd.R_lt (rr_ HO_470001)) k_ hk))
         (case aO => exact (rr_ HO_470000))
         (case aS => exact (bF_ hB_))
         (case aL => have := LMc16.out; omega)
         intro v471 w20 ho hb hg hat
         rw [← Ny470.out] at ho
         replace HO_470001 := A_ (Kd.R_after (ok := (fun _ => True)) (rw_ (Kd.R_mono HO_470001.out (fun _ hk => ⟨trivial, hk⟩))) hg hat)
         replace BK466 := A_ (blk_grown (kk_ BK466) hg (Kd.R_ne HO_470000.out BK466.out (by decide)))
         replace BK469 := A_ (blk_grown (kk_ BK469) hg (Kd.R_ne HO_470000.out BK469.out (by decide)))
         replace HB := A_ hb
         have HO472 := A_ ho
         clear HO_470000
         clear ho hb hg hat
         obtain ⟨Ao21, co21, eo21⟩ := Kd.R_slice HO472.out
         (first | subst eo21 | (injection eo21 with f1_ f2_ f3_; have f4_ := f1_.symm; have f5_ := f3_.symm; clear f1_ f2_ f3_; subst f4_; subst f5_))
         refine hK.out _ _ ⟨cz0_ BK469, cz1_ BK469⟩ (fun hHeld => ?_)
         clear hK K
         refine no_ (some 46) ?_
         refine pu_ 16 (some 47) (bl_ 18 131071) HT_ ?_
         refine last_ (i := 17) (N := none) (bl_ 18 262143) rfl rfl (one_of HT_.out (by kernel_rfl)) (by decide) (fun K hK => ?_)
         have hs22 : w20.cell? ⟨gb469, 0, none⟩ = some (u470000) := cz0_ BK469
         have hfs22 := kD_ BK469.out 0
         have hns22_0 := NB466_469.out
         have hms22_0 := NB469_466.out
         refine skip_ (w1 := ?_) (by rfl) rfl ?_ ?_
         rotate_left
         ·go_simp
          rfl
         refine hK.out _ _ ?_
         clear hK K
         refine done_ (done_of HT_.out (by kernel_rfl)) ?_
         try go_wp2
         have n0_ : Aside0 (Kd.R (Kd.int .i64) 3 (w20.setCell ⟨gb469, 0, none⟩ (.slice Ao21 y470.length co21)) w.heap.size (fun k_ => some k_ ≠ (.slice Ao21 y470.length co21 : Value).ownBlock) u470001 x470001_2) := ⟨(rw_ (Kd.R_mono (Kd.R_far (p := ⟨gb469, 0, none⟩) (Kd.R_types HO_470001.out BK469.out (by decide)) (fun _ hk => hk.2) (.slice Ao21 y470.length co21)) (fun _ hk => hk.1.2)))⟩
         have n1_ : Aside0 (Kd.R (Kd.int .i64) 3 (w20.setCell ⟨gb469, 0, none⟩ (.slice Ao21 y470.length co21)) w.heap.size (fun k_ => some k_ ≠ (u470001 : Value).ownBlock) (.slice Ao21 y470.length co21) y470) := ⟨(rw_ (Kd.R_mono (Kd.R_far (p := ⟨gb469, 0, none⟩) (Kd.R_types HO472.out BK469.out (by decide)) (fun _ hk => hk.2) (.slice Ao21 y470.length co21)) (fun _ hk => hk.1)))⟩
         have n2_ : Aside0 ((w20.setCell ⟨gb469, 0, none⟩ (.slice Ao21 y470.length co21)).heap[gb466]? = some (.cells #[.slice none 0 0, .slice none 0 0] 33 (0, 0))) := ⟨by (with_reducible repeat (first | refine kA_ ?_ _ | refine kB_ ?_ | refine kC_ ?_ _)); refine blk_far ?_ NB466_469.out _; (with_reducible repeat (first | refine kA_ ?_ _ | refine kB_ ?_ | refine kC_ ?_ _)); exact BK466.out⟩
         have n3_ : Aside0 ((w20.setCell ⟨gb469, 0, none⟩ (.slice Ao21 y470.length co21)).heap[gb469]? = some (.cells #[.slice Ao21 y470.length co21, u470001] 33 (0, 0))) := ⟨by (with_reducible repeat (first | refine kA_ ?_ _ | refine kB_ ?_ | refine kC_ ?_ _)); refine blk_put (cs := #[u470000, u470001]) ?_ 0 _ rfl; (with_reducible repeat (first | refine kA_ ?_ _ | refine kB_ ?_ | refine kC_ ?_ _)); exact BK469.out⟩
         have n4_ : Aside0 (Below w.heap.size w (w20.setCell ⟨gb469, 0, none⟩ (.slice Ao21 y470.length co21))) := ⟨hB_⟩
         skip
         generalize (w20.setCell ⟨gb469, 0, none⟩ (.slice Ao21 y470.length co21)) = w23 at n0_ n1_ n2_ n3_ n4_ ⊢
         have HO_470001 := n0_
         have HO472 := n1_
         have BK466 := n2_
         have BK469 := n3_
         have HB := n4_
         clear n0_ n1_ n2_ n3_ n4_
         replace HO_470001 := A_ (rC_ HO_470001.out)
         replace HO472 := A_ (rC_ HO472.out)
         replace BK466 := A_ (kB_ BK466.out)
         replace BK469 := A_ (kB_ BK469.out)
         replace HB := A_ (bC_ HB.out)
         refine start_ (n := 13) (S := fun w' => w'.cell? ⟨gb469, 0, none⟩ = some (.slice Ao21 y470.length co21) ∧ w'.cell? ⟨gb469, 1, none⟩ = some (u470001)) (ds := [12]) (bl_ 13 0) (by kernel_rfl) rfl (by kernel_rfl) ⟨cz0_ BK469, cz1_ BK469⟩ (fun hHeld => ?_); refine with_tabW Z49.tab8 Z49.bits8 (fun HT_ HW_ => ?_)
         generalize w23.drew = w24 at HO_470001 HO472 BK466 BK469 HB hHeld ⊢
         refine pu_ 0 (some 48) (bl_ 13 1) HT_ ?_
         refine pu_ 2 (some 50) (bl_ 13 5) HT_ ?_
         refine pu_ 3 (some 51) (bl_ 13 13) HT_ ?_
         refine pu_ 4 (some 52) (bl_ 13 29) HT_ ?_
         refine pu_ 5 (some 53) (bl_ 13 61) HT_ ?_
         refine pu_ 6 (some 54) (bl_ 13 125) HT_ ?_
         refine pu_ 7 (some 55) (bl_ 13 253) HT_ ?_
         refine pu_ 8 (some 56) (bl_ 13 509) HT_ ?_
         refine ta_ 1 (some 49) (bl_ 13 511) HT_ HW_ hHeld ?_
         refine on_ 9 (some 57) (bl_ 13 1023) HT_ (fun K hK => ?_)
         refine value_ (w1 := ?_) (v := ?_) (by rfl) rfl ?_ ?_
         rotate_left 2
         ·go_simp
          constructor
          ·rfl
          ·rfl
         refine hK.out _ _ ⟨(blk_cell (kC_ BK469.out _) 0).trans rfl, (blk_cell (kC_ BK469.out _) 1).trans rfl⟩ (fun hHeld => ?_)
         clear hK K
         refine no_ (some 57) ?_
         refine on_ 10 (some 58) (bl_ 13 2047) HT_ (fun K hK => ?_)
         refine Kd.R_append_step (Kd.int .i64) (w0 := w) w.heap.size (by rfl) (.tmp 49) (.tmp 57) 23 3 (.int .i64 0) 8 rfl Try.underlying23 info3 rfl (by decide) (by omega) u470001 x470001_2 (Int.tmod (wrap64 (x7_2 + a0)) (wrap64 (a0 * a1))) [.int .i64 (Int.tmod (wrap64 (x7_2 + a0)) (wrap64 (a0 * a1)))] (fun k_ => some k_ ≠ (.slice Ao21 y470.length co21 : Value).ownBlock) (fun _ => False) rfl rfl ?aP (fun _ hk => hk.elim) ?aF ?aO ?aB ?aS ?aL ?_
         (case aP => exact rfl)
         (case aB => exact hB_)
         (case aF => exact (fun k_ hk => Kd.fresh' (Kd.R_lt (rr_ HO472)) k_ hk))
         (case aO => exact (rr_ HO_470001))
         (case aS => exact (bF_ hB_))
         (case aL => have := LMc18.out; omega)
         intro v474 w25 ho hb hg hat
         rw [← Ny473.out] at ho
         replace BK466 := A_ (blk_grown (kk_ BK466) hg (Kd.R_ne HO_470001.out BK466.out (by decide)))
         replace BK469 := A_ (blk_grown (kk_ BK469) hg (Kd.R_ne HO_470001.out BK469.out (by decide)))
         replace HO472 := A_ (Kd.R_after (ok := (fun _ => True)) (rw_ (Kd.R_mono HO472.out (fun _ hk => ⟨trivial, hk⟩))) hg hat)
         replace HB := A_ hb
         have HO475 := A_ ho
         clear HO_470001
         clear ho hb hg hat
         obtain ⟨Ao26, co26, eo26⟩ := Kd.R_slice HO475.out
         (first | subst eo26 | (injection eo26 with f1_ f2_ f3_; have f4_ := f1_.symm; have f5_ := f3_.symm; clear f1_ f2_ f3_; subst f4_; subst f5_))
         refine hK.out _ _ ⟨cz0_ BK469, cz1_ BK469⟩ (fun hHeld => ?_)
         clear hK K
         refine no_ (some 58) ?_
         refine pu_ 11 (some 59) (bl_ 13 4095) HT_ ?_
         refine last_ (i := 12) (N := none) (bl_ 13 8191) rfl rfl (one_of HT_.out (by kernel_rfl)) (by decide) (fun K hK => ?_)
         have hs27 : w25.cell? ⟨gb469, 1, none⟩ = some (u470001) := cz1_ BK469
         have hfs27 := kD_ BK469.out 1
         have hns27_0 := NB466_469.out
         have hms27_0 := NB469_466.out
         refine skip_ (w1 := ?_) (by rfl) rfl ?_ ?_
         rotate_left
         ·go_simp
          rfl
         refine hK.out _ _ ?_
         clear hK K
         refine done_ (done_of HT_.out (by kernel_rfl)) ?_
         try go_wp2
         go_roundg k2
         case measure => have := HJ2.out; have := HK2.out; omega
         case rel => exact ⟨(wrap64 (x7_2 + 1)), (y470), (y473), (.slice Ao21 y470.length co21), (.slice Ao26 y473.length co26), qc_, H', ⟨by have := HJ2.out; have := HK2.out; omega⟩, ⟨(rw_ (Kd.R_mono (Kd.R_far (p := ⟨gb469, 1, none⟩) (Kd.R_types HO472.out BK469.out (by decide)) (fun _ hk => hk.2) (.slice Ao26 y473.length co26)) (fun _ hk => hk.1.2)))⟩, ⟨(rw_ (Kd.R_mono (Kd.R_far (p := ⟨gb469, 1, none⟩) (Kd.R_types HO475.out BK469.out (by decide)) (fun _ hk => hk.2) (.slice Ao26 y473.length co26)) (fun _ hk => hk.1)))⟩, ⟨by (with_reducible repeat (first | refine kA_ ?_ _ | refine kB_ ?_ | refine kC_ ?_ _)); refine blk_far ?_ NB466_469.out _; (with_reducible repeat (first | refine kA_ ?_ _ | refine kB_ ?_ | refine kC_ ?_ _)); exact BK466.out⟩, ⟨by (with_reducible repeat (first | refine kA_ ?_ _ | refine kB_ ?_ | refine kC_ ?_ _)); refine blk_put (cs := #[.slice Ao21 y470.length co21, u470001]) ?_ 1 _ rfl; (with_reducible repeat (first | refine kA_ ?_ _ | refine kB_ ?_ | refine kC_ ?_ _)); exact BK469.out⟩, ⟨hB_⟩⟩
      ·rw [if_neg c14] at H
       have c14b0 := oD_ c14
       clear c14
       simp only [Option.some.injEq, Prod.mk.injEq] at H
       obtain ⟨rfl, rfl, rfl⟩ := H
       have hnb28 := NB469_466.out
       have hnc28 := NB466_469.out
       obtain ⟨hcz29_0, hcz29_1, hfz29_0, hfz29_1⟩ := c2_ BK469
       obtain ⟨Ao30, co30, eo30⟩ := Kd.R_slice HO_470000.out
       subst eo30
       obtain ⟨hcz31_0, hcz31_1, hfz31_0, hfz31_1⟩ := c2_ BK466
       obtain ⟨Ao32, co32, eo32⟩ := Kd.R_slice HO_470001.out
       subst eo32
       go_wp2
       refine bodyPost_ret (results_ct rfl _ _ gb466 33 #[.slice Ao30 x470000_2.length co30, .slice Ao32 x470001_2.length co32] (0, 0) _ rfl qp_ Try.underlying33 rfl (by kernel_rfl)) rfl ?_
       exact ⟨_, _, qb_, (rw_ (fa_ HO_470000 BK466)), (rw_ (fa_ HO_470001 BK466)), hB_⟩
end Go.Proofs.Ytoijcallajegfaa.A
end
section
namespace Go.Proofs.Ytoijcallajegfaa.A
open Go.RowKit Go.Proofs.YtoijcallajegfaaW.PrintWords Go.Proofs.YtoijcallajegfaaW.PrintLast Go.Proofs.YtoijcallajegfaaW.PrintMore
attribute [local go_sem] max2_int min2_int max_two min_two max_three min_three max_four min_four
set_option linter.unusedVariables false
set_option linter.unusedSimpArgs false
def Z52.l0 : Nat → List Int → List Int → List Int → Int → Int → Option (List Int)
 | 0, _, _, _, _, _ => none
 | k + 1, x1, x5, x9, x10, x11 => if x11 < x10 then (if 0 ≤ x11 then (if x11 < (x9.length : Int) then (if 0 ≤ (rd x9 x11) then (if (rd x9 x11) < (x1.length : Int) then (if x5.length < 17592186044416 then (Z52.l0 k x1 (x5 ++ [rd x1 (rd x9 x11)]) x9 x10 (wrap64 (x11 + 1))) else (none)) else (none)) else (none)) else (none)) else (none)) else (some x5)
def Z52.f (k : Nat) (l0 : List Int) (l1 : List Int) : Option (List Int) := Z52.l0 k l1 (([] : List Int)) l0 (l0.length : Int) 0
theorem Z52.mono_l : ∀ k, (∀ y0 y1 y2 y3 y4, LeO (Z52.l0 k y0 y1 y2 y3 y4) (Z52.l0 (k + 1) y0 y1 y2 y3 y4))
 | 0 => fun _ _ _ _ _ r h => by simp [Z52.l0] at h
 | k + 1 => by
  have ih0 := Z52.mono_l k
  ·intro y0 y1 y2 y3 y4
   unfold Z52.l0
   repeat' first|exact ih0 _ _ _ _ _|exact lo_|refine LeO.ite ?_ ?_|refine LeO.bind ?_ (fun _ => ?_)
theorem Z52.mono : ∀ a0 a1 k, LeO (Z52.f k a0 a1) (Z52.f (k + 1) a0 a1) := by
 intro a0 a1 k
 have ih0 := Z52.mono_l k
 unfold Z52.f
 repeat' first|exact ih0 _ _ _ _ _|exact lo_|refine LeO.ite ?_ ?_|refine LeO.bind ?_ (fun _ => ?_)
set_option maxHeartbeats 8000000 in
set_option maxRecDepth 100000 in
theorem Z52.calls (k : Nat) (A0 : Option Addr) (c0 : Nat) (l0 : List Int) (A1 : Option Addr) (c1 : Nat) (l1 : List Int) (r : List Int) (w : World) (hr0 : Kd.C (Kd.int .i64) w A0 l0.length l0) (hc0 : l0.length ≤ c0) (hr1 : Kd.C (Kd.int .i64) w A1 l1.length l1) (hc1 : l1.length ≤ c1) (h : Z52.f k l0 l1 = some r) :
  Calls Try.prog 110 #[.slice A0 l0.length c0, .slice A1 l1.length c1] w fun e w' => ∃ v0_ : Value, e = .returned (v0_) ∧ Kd.R (Kd.int .i64) 3 w' w.heap.size (fun _ => True) v0_ r ∧ Below w.heap.size w w' := by
 have HR0 := A_ hr0
 have HC0 := A_ hc0
 clear hr0 hc0
 have HR1 := A_ hr1
 have HC1 := A_ hc1
 clear hr1 hc1
 have HB := A_ (Below.refl w.heap.size w)
 have H := h
 unfold Z52.f at H
 clear h
 obtain ⟨y476, hy476⟩ : ∃ y_ : List Int, y_ = (([] : List Int)) := ⟨_, rfl⟩
 replace H : (Z52.l0 k l1 y476 l0 (l0.length : Int) 0) = some r := by first | (rw [hy476]; exact H) | exact H
 have Ny476 := A_ hy476
 clear hy476
 have H' := A_ H
 clear H
 go_enter Try.func110, Try.ntmps110
 go_wp2_with (first | ((with_reducible refine gB_ (N := 8) rfl ?_); refine Kd.R_lit (Kd.int .i64) _ 3 ?hg (N := 8) ?hd (xs := ([] : List Int)) (inner := []) (ok := fun _ => True) (okp := fun _ => True) ?hr ?hp (fun _ hk => hk) trivial (Below.refl _ _) (nA_ _) (by simp) ?_; (case hd => rfl); (case hg => rfl); (case hr => first | (go_simp; done) | (go_simp; rfl)); (case hp => exact (Reps.none _ _)); intro v477 w3 ho4 hb hg_ hnew_; clear hg_ hnew_; (first | rw [← Ny476.out] at ho4 | (simp only [Int.reduceToNat] at ho4; rw [← Ny476.out] at ho4)); have HO478 := rl_ w ho4; replace HB := b1_ hb; clear hb ho4))
 go_loopg [5, 11] k (fun kq v5 v11 w' => ∃ (x5_1 : List Int) (x11_1 : Int), v11 = .int .i64 x11_1 ∧ Aside0 (Z52.l0 kq l1 x5_1 l0 (l0.length : Int) x11_1 = some r) ∧ Aside0 (kq ≤ k) ∧ Aside0 (Kd.R (Kd.int .i64) 3 w' w.heap.size (fun _ => True) v5 x5_1) ∧ Aside0 (Below w.heap.size w w'))
 case atStart => exact ⟨(y476), (0), qc_, H', ⟨nA_ _⟩, ⟨(rr_ HO478)⟩, ⟨hB_⟩⟩
 case round =>
  clear H'
  obtain ⟨x5_1, x11_1, rfl, HA, HK1, HO_5, HB⟩ := hrel
  cases gk with
  | zero => exact absurd HA.out (by simp [Z52.l0])
  | succ k1 =>
   have H := HA.out
   clear HA
   simp only [Z52.l0] at H
   by_cases c5 : x11_1 < (l0.length : Int)
   ·rw [if_pos c5] at H
    have c5b0 := oC_ c5
    clear c5
    have c6 := cp_ H
    replace H := ca_ H
    have c6b0 := oC_ c6
    clear c6
    have c7 := cp_ H
    replace H := ca_ H
    have c7b0 := oC_ c7
    clear c7
    have c8 := cp_ H
    replace H := ca_ H
    have c8b0 := oC_ c8
    clear c8
    have c9 := cp_ H
    replace H := ca_ H
    have c9b0 := oC_ c9
    clear c9
    have c10 := cp_ H
    replace H := ca_ H
    have LMc10 := A_ c10
    clear c10
    obtain ⟨y481, hy481⟩ : ∃ y_ : List Int, y_ = (x5_1 ++ [rd l1 (rd l0 x11_1)]) := ⟨_, rfl⟩
    replace H : (Z52.l0 k1 l1 y481 l0 (l0.length : Int) (wrap64 (x11_1 + 1))) = some r := by first | (rw [hy481]; exact H) | exact H
    have Ny481 := A_ hy481
    clear hy481
    have H' := A_ H
    clear H
    have p479 : 0 ≤ (x11_1 : Int) := oB_ qe_
    have q479 : x11_1 < (l0.length : Int) := oB_ qe_
    obtain ⟨ad479, e479, hx479_0⟩ := Kd.at_int HR0.out x11_1 p479 q479
    cases e479
    replace hx479_0 := (HB.out.cell (World.block_lt_of_cell? w _ hx479_0)).trans hx479_0
    replace p479 := eq_true p479
    replace q479 := eq_true q479
    have p480 : 0 ≤ ((rd l0 x11_1) : Int) := oB_ qe_
    have q480 : (rd l0 x11_1) < (l1.length : Int) := oB_ qe_
    obtain ⟨ad480, e480, hx480_0⟩ := Kd.at_int HR1.out (rd l0 x11_1) p480 q480
    cases e480
    replace hx480_0 := (HB.out.cell (World.block_lt_of_cell? w _ hx480_0)).trans hx480_0
    replace p480 := eq_true p480
    replace q480 := eq_true q480
    go_wp2_with (first | ((with_reducible refine gate_builtin (b := .append) (xs := #[.tmp 15, .tmp 20]) rfl ?_); at_builtin; refine Kd.R_append (Kd.int .i64) (w0 := w) w.heap.size rfl (.tmp 15) (.tmp 20) 23 3 (.int .i64 0) 8 rfl Try.underlying23 info3 rfl (by decide) (by omega) u5 x5_1 (rd l1 (rd l0 x11_1)) [.int .i64 (rd l1 (rd l0 x11_1))] (fun _ => True) (fun _ => False) rfl rfl ?aP (fun _ hk => hk.elim) ?aF ?aO ?aB ?aS ?aL ?_; (case aP => exact rfl); (case aB => exact hB_); (case aF => exact (fun _ _ => trivial)); (case aO => exact (rr_ HO_5)); (case aS => exact (bF_ hB_)); (case aL => have := LMc10.out; omega); intro v482 w11 ho hb hg hat; rw [← Ny481.out] at ho; replace HB := A_ hb; have HO483 := A_ ho; clear HO_5; clear ho hb hg hat))
    go_roundg k1
    case measure => have := HK1.out; omega
    case rel => exact ⟨(y481), (wrap64 (x11_1 + 1)), qc_, H', ⟨by have := HK1.out; omega⟩, ⟨(rr_ HO483)⟩, ⟨hB_⟩⟩
   ·rw [if_neg c5] at H
    have c5b0 := oD_ c5
    clear c5
    obtain rfl := Option.some.inj H
    go_wp2
    go_ret
    exact ⟨_, qb_, (rr_ HO_5), hB_⟩
def Z26.l0 : Nat → List Int → List Int → Int → Int → Option (List Int)
 | 0, _, _, _, _ => none
 | k + 1, x3, x9, x10, x11 => if x11 < x10 then (if 0 ≤ x11 then (if x11 < (x9.length : Int) then (if 0 ≤ (rd x9 x11) then (if (rd x9 x11) < (x3.length : Int) then (Z26.l0 k (x3.set ((rd x9 x11) : Int).toNat x11) x9 x10 (wrap64 (x11 + 1))) else (none)) else (none)) else (none)) else (none)) else (some x3)
def Z26.f (k : Nat) (l0 : List Int) : Option (List Int) := if 0 ≤ (l0.length : Int) then (if ((l0.length : Int) : Int).toNat ≤ 35184372088832 then (Z26.l0 k (List.replicate ((l0.length : Int) : Int).toNat 0) l0 (l0.length : Int) 0) else (none)) else (none)
theorem Z26.mono_l : ∀ k, (∀ y0 y1 y2 y3, LeO (Z26.l0 k y0 y1 y2 y3) (Z26.l0 (k + 1) y0 y1 y2 y3))
 | 0 => fun _ _ _ _ r h => by simp [Z26.l0] at h
 | k + 1 => by
  have ih0 := Z26.mono_l k
  ·intro y0 y1 y2 y3
   unfold Z26.l0
   repeat' first|exact ih0 _ _ _ _|exact lo_|refine LeO.ite ?_ ?_|refine LeO.bind ?_ (fun _ => ?_)
theorem Z26.mono : ∀ a0 k, LeO (Z26.f k a0) (Z26.f (k + 1) a0) := by
 intro a0 k
 have ih0 := Z26.mono_l k
 unfold Z26.f
 repeat' first|exact ih0 _ _ _ _|exact lo_|refine LeO.ite ?_ ?_|refine LeO.bind ?_ (fun _ => ?_)
set_option maxHeartbeats 8000000 in
set_option maxRecDepth 100000 in
theorem Z26.calls (k : Nat) (A0 : Option Addr) (c0 : Nat) (l0 : List Int) (r : List Int) (w : World) (hr0 : Kd.C (Kd.int .i64) w A0 l0.length l0) (hc0 : l0.length ≤ c0) (h : Z26.f k l0 = some r) :
  Calls Try.prog 111 #[.slice A0 l0.length c0] w fun e w' => ∃ v0_ : Value, e = .returned (v0_) ∧ Kd.R (Kd.int .i64) 3 w' w.heap.size (fun _ => True) v0_ r ∧ Below w.heap.size w w' := by
 have HR0 := A_ hr0
 have HC0 := A_ hc0
 clear hr0 hc0
 have HB := A_ (Below.refl w.heap.size w)
 have H := h
 unfold Z26.f at H
 clear h
 have c2 := cp_ H
 replace H := ca_ H
 have c2b0 := eq_true c2
 have c2b1 := oC_ c2
 clear c2
 have c3 := cp_ H
 replace H := ca_ H
 have c3b0 := eq_true c3
 have c3b1 := oC_ c3
 clear c3
 obtain ⟨y484, hy484⟩ : ∃ y_ : List Int, y_ = (List.replicate ((l0.length : Int) : Int).toNat 0) := ⟨_, rfl⟩
 replace H : (Z26.l0 k y484 l0 (l0.length : Int) 0) = some r := by first | (rw [hy484]; exact H) | exact H
 have Ny484 := A_ hy484
 clear hy484
 have H' := A_ H
 clear H
 go_enter Try.func111, Try.ntmps111
 go_wp2_with (first | ((with_reducible refine gB_ (N := 8) rfl ?_); refine Kd.R_make (Kd.int .i64) _ 3 rfl (N := 8) rfl 23 _ _ rfl (l0.length : Int) rfl rfl Try.underlying23 (.int .i64 0) 8 info3 rfl (by decide) (by omega) 0 (ok := fun _ => True) (okp := fun _ => True) rfl (fun _ hk => hk) trivial (oB_ qe_) (Nat.le_trans (Nat.mul_le_mul_right _ (oB_ qe_ : (l0.length : Int).toNat ≤ 35184372088832)) (by omega)) (Below.refl _ _) (nA_ _) ?_; intro v485 w4 ho5 hb hg_ hnew_; clear hg_ hnew_; (first | rw [← Ny484.out] at ho5 | (simp only [Int.reduceToNat] at ho5; rw [← Ny484.out] at ho5)); have HO486 := rl_ w ho5; replace HB := b1_ hb; clear hb ho5))
 go_loopg [11] k (fun kq v11 w' => ∃ (x3_1 : List Int) (x11_1 : Int), v11 = .int .i64 x11_1 ∧ Aside0 (Z26.l0 kq x3_1 l0 (l0.length : Int) x11_1 = some r) ∧ Aside0 (kq ≤ k) ∧ Aside0 (Kd.R (Kd.int .i64) 3 w' w.heap.size (fun _ => True) v485 x3_1) ∧ Aside0 (Below w.heap.size w w'))
 case atStart => exact ⟨(y484), (0), qc_, H', ⟨nA_ _⟩, ⟨(rr_ HO486)⟩, ⟨hB_⟩⟩
 case round =>
  clear H'
  obtain ⟨x3_1, x11_1, rfl, HA, HK1, HO_3, HB⟩ := hrel
  cases gk with
  | zero => exact absurd HA.out (by simp [Z26.l0])
  | succ k1 =>
   have H := HA.out
   clear HA
   simp only [Z26.l0] at H
   by_cases c6 : x11_1 < (l0.length : Int)
   ·rw [if_pos c6] at H
    have c6b0 := oC_ c6
    clear c6
    have c7 := cp_ H
    replace H := ca_ H
    have c7b0 := oC_ c7
    clear c7
    have c8 := cp_ H
    replace H := ca_ H
    have c8b0 := oC_ c8
    clear c8
    have c9 := cp_ H
    replace H := ca_ H
    have c9b0 := oC_ c9
    clear c9
    have c10 := cp_ H
    replace H := ca_ H
    have c10b0 := oC_ c10
    clear c10
    obtain ⟨y488, hy488⟩ : ∃ y_ : List Int, y_ = (x3_1.set ((rd l0 x11_1) : Int).toNat x11_1) := ⟨_, rfl⟩
    replace H : (Z26.l0 k1 y488 l0 (l0.length : Int) (wrap64 (x11_1 + 1))) = some r := by first | (rw [hy488]; exact H) | exact H
    have Ny488 := A_ hy488
    clear hy488
    have H' := A_ H
    clear H
    have p487 : 0 ≤ (x11_1 : Int) := oB_ qe_
    have q487 : x11_1 < (l0.length : Int) := oB_ qe_
    obtain ⟨ad487, e487, hx487_0⟩ := Kd.at_int HR0.out x11_1 p487 q487
    cases e487
    replace hx487_0 := (HB.out.cell (World.block_lt_of_cell? w _ hx487_0)).trans hx487_0
    replace p487 := eq_true p487
    replace q487 := eq_true q487
    have p11 : 0 ≤ ((rd l0 x11_1) : Int) := oB_ qe_
    have q11 : ((rd l0 x11_1) : Int) < ((x3_1.length : Int) : Int) := oB_ qe_
    obtain ⟨go11, co11, eo11, gb11, gl11, cl11, HG11⟩ := Kd.R_form HO_3.out (by omega)
    (first | cases eo11 | (injection eo11 with ea_ en_ ec_; (first | subst ea_ | (injection ea_ with ea_; subst ea_)); subst ec_; clear en_))
    have GB11 := A_ gb11
    have GG11 := A_ HG11
    clear gb11 gl11 HG11
    obtain ⟨hx11_0, hf11_0⟩ := Kd.R_celln 0 HO_3.out ((rd l0 x11_1) : Int) p11 q11
    replace p11 := eq_true p11
    replace q11 := eq_true q11
    have HP12 := Kd.R_putg HO_3.out ((rd l0 x11_1) : Int) x11_1
    go_wp2_with (first | ((with_reducible refine gate_store (t := 3) (p := 19) rfl ?_); refine store_event (t := 3) (p := 19) (v := ?vo_w13) (w1 := (wr.setCell ⟨go11, ((rd l0 x11_1) : Int).toNat, none⟩ (.int .i64 x11_1))) ?hg ?ho ?hn ?hr ?_; (case ho => rfl); (case hg => rfl); (case hn => rfl); (case hr => first | (go_simp; done) | (go_simp; rfl)); intro w13 hw; have hg : wr.grownBy w13 (some go11) := (by rw [hw]; exact HP12.2); have hp_ : Kd.R (Kd.int .i64) 3 w13 w.heap.size (fun _ => True) (.slice (some ⟨go11, 0, none⟩) x3_1.length co11) y488 := (by rw [hw, Ny488.out]; exact HP12.1); clear HP12; replace HO_3 := A_ (hp_); replace HB := A_ ((by rw [hw]; exact bD_ (HB.out) GB11.out : Below w.heap.size w w13)); clear hg hw hp_))
    go_roundg k1
    case measure => have := HK1.out; omega
    case rel => exact ⟨(y488), (wrap64 (x11_1 + 1)), qc_, H', ⟨by have := HK1.out; omega⟩, ⟨(rr_ HO_3)⟩, ⟨hB_⟩⟩
   ·rw [if_neg c6] at H
    have c6b0 := oD_ c6
    clear c6
    obtain rfl := Option.some.inj H
    go_wp2
    go_ret
    exact ⟨_, qb_, (rr_ HO_3), hB_⟩
end Go.Proofs.Ytoijcallajegfaa.A
end
