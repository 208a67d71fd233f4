/- Lemmas for the row FnExactSurfacesIn: the program's functions told as plain functions, and plain mathematics. No conditions. -/
import Derived.ArgAppend
import Derived.Below
import Derived.BigQuiet
import Derived.Deep.AppendLies
import Derived.Deep.CutBlock
import Derived.Deep.DeepCutAuto
import Derived.Deep.Draws
import Derived.Deep.LoopGhost
import Derived.Deep.OwnRows
import Derived.Deep.QuietTactic
import Derived.Deep.RegionHeld3
import Derived.KernelRfl
import Derived.Laws.BitsLemmas
import Derived.Laws.BytesArg
import Derived.Laws.IdiomCopy
import Derived.Laws.MakeOwn
import Derived.Laws.OwnMore
import Derived.Laws.Rows
import Derived.Laws.Slices
import Derived.Laws.Tables
import Derived.Lib.AppendStr
import Derived.Lib.ConvBytes
import Derived.Maps.AppendAt
import Derived.OrdersHeld
import Derived.OwnWalk
import Derived.RowKit
import Derived.RowKit3
import Derived.Tactics
import Derived.Test.YtoijcallajegfaaGreatProg
import Derived.WalkKit
import Derived.WideLaws
import Derived.Test.YtoijcallajegfaaGreatQFnExactSurfacesIn0
section
namespace Go.Proofs.YtoijcallajegfaaGreat.A
open Go.RowKit Go.Proofs.YtoijcallajegfaaGreatW.PrintWords Go.Proofs.YtoijcallajegfaaGreatW.PrintLast Go.Proofs.YtoijcallajegfaaGreatW.PrintMore
theorem cq0_ {w : World} {g : Nat} {t : TypeId} {a b : Value} (h : w.heap[g]? = some (.cells #[a, b] t (0, 0))) : w.cell? ⟨g, 0, none⟩ = some a := (blk_cell h 0).trans rfl
theorem cq1_ {w : World} {g : Nat} {t : TypeId} {a b : Value} (h : w.heap[g]? = some (.cells #[a, b] t (0, 0))) : w.cell? ⟨g, 1, none⟩ = some b := (blk_cell h 1).trans rfl
theorem bA_ : type_of% @below_alloc := @below_alloc
theorem bB_ : type_of% @pw_below_drewN := @pw_below_drewN
theorem bC_ : type_of% @below_drew1 := @below_drew1
theorem bD_ : type_of% @below_set := @below_set
theorem kA_ : type_of% @blk_drewN := @blk_drewN
theorem kB_ : type_of% @blk_drew := @blk_drew
theorem kC_ : type_of% @blk_alloc := @blk_alloc
theorem cA_ : type_of% @Kd.C_alloc := @Kd.C_alloc
theorem cB_ : type_of% @Kd.C_drewN := @Kd.C_drewN
theorem cC_ : type_of% @Kd.C_drew := @Kd.C_drew
theorem rA_ : type_of% @Kd.R_alloc := @Kd.R_alloc
theorem rB_ : type_of% @Kd.R_drewN := @Kd.R_drewN
theorem rC_ : type_of% @Kd.R_drew := @Kd.R_drew
theorem cD_ : type_of% @Kd.C_below := @Kd.C_below
theorem rD_ : type_of% @Kd.R_below := @Kd.R_below
theorem kD_ : type_of% @blk_frozen := @blk_frozen
theorem A_ : type_of% @Aside0.mk := @Aside0.mk
theorem mA_ : type_of% @List.map_toArray := @List.map_toArray
theorem mB_ : type_of% @List.map_cons := @List.map_cons
theorem mC_ : type_of% @List.map_nil := @List.map_nil
theorem sA_ : type_of% @List.setIfInBounds_toArray := @List.setIfInBounds_toArray
theorem sB_ : type_of% @List.set_cons_zero := @List.set_cons_zero
theorem sC_ : type_of% @List.set_cons_succ := @List.set_cons_succ
theorem lA_ : type_of% @List.length_drop := @List.length_drop
theorem lB_ : type_of% @List.length_take := @List.length_take
theorem gA_ : type_of% @gate_callee := @gate_callee
theorem gB_ : type_of% @gate_dst := @gate_dst
theorem oB_ : type_of% @of_decide_eq_true := @of_decide_eq_true
theorem oC_ : type_of% @decide_eq_true := @decide_eq_true
theorem oD_ : type_of% @decide_eq_false := @decide_eq_false
theorem rE_ : type_of% @Kd.R_lower := @Kd.R_lower
theorem bF_ : type_of% @below_size := @below_size
theorem kE_ : type_of% @blk_below := @blk_below
theorem nA_ : type_of% @Nat.le_refl := @Nat.le_refl
end Go.Proofs.YtoijcallajegfaaGreat.A
end
section
namespace Go.Proofs.YtoijcallajegfaaGreat.A
open Go.RowKit Go.Proofs.YtoijcallajegfaaGreatW.PrintWords Go.Proofs.YtoijcallajegfaaGreatW.PrintLast Go.Proofs.YtoijcallajegfaaGreatW.PrintMore
attribute [local go_sem] max2_int min2_int max_two min_two max_three min_three max_four min_four
set_option linter.unusedVariables false
set_option linter.unusedSimpArgs false
def errW : Option Int → Value
 | none => .nilIface
 | some c => .iface 0 (.int .i64 c)
theorem errW_none : errW none = .nilIface := rfl
theorem errW_some (c : Int) : errW (some c) = .iface 0 (.int .i64 c) := rfl
theorem info3 : (Tryz.prog.info? 3).map (fun i => (i.zero, i.size, i.bytes)) = some (some (.int .i64 0), 1, 8) := by kernel_rfl
theorem info4 : (Tryz.prog.info? 4).map (fun i => (i.zero, i.size, i.bytes)) = some (some (.bool false), 1, 1) := by kernel_rfl
theorem info27 : (Tryz.prog.info? 27).map (fun i => (i.zero, i.size, i.bytes)) = some (some (.slice none 0 0), 1, 24) := by kernel_rfl
theorem info38 : (Tryz.prog.info? 38).map (fun i => (i.zero, i.size, i.bytes)) = some (some (.agg #[(.slice none 0 0), (.slice none 0 0)]), 2, 48) := by kernel_rfl
def rd_L1 (xs : List (List Int)) (i : Int) : (List Int) := xs.getD i.toNat ([] : List Int)
theorem at_L1 {w : World} {A : Option Addr} {n : Nat} {xs : List (List Int)} (h : Kd.C (Kd.slice 3 (Kd.int .i64)) w A n xs) (i : Int) (h0 : 0 ≤ i) (h1 : i < n) : ∃ ad A0 c0, A = some ad ∧ w.cell? (ad.add i.toNat) = some (.slice A0 (rd_L1 xs i).length c0) ∧ (rd_L1 xs i).length ≤ c0 ∧ (Kd.int .i64).C w A0 (rd_L1 xs i).length (rd_L1 xs i) := by
 obtain ⟨ad, c, e, _, hK, hc0⟩ := Kd.C_get h ([] : List Int) i h0 h1
 have hc : ∀ j u, c[j]? = some u → w.cell? (ad.add (i.toNat * 1 + j)) = some u := hc0
 obtain ⟨A0, c0, rfl, l0, g0⟩ := hK
 exact ⟨ad, A0, c0, e, by have hq := hc 0 _ rfl; rwa [Nat.mul_one, Nat.add_zero] at hq, l0, g0⟩
structure S38 where
 f0 : (List Int)
 f1 : (List Int)
def z38 : S38 := ⟨([] : List Int), ([] : List Int)⟩
def pairN {α β : Type} (a : Kd α) (b : Kd β) : Kd (α × β) where
 sz := a.sz + b.sz
 E := a.E ++ b.E
 K := (Kd.pair a b).K
 M := fun w base ok x cs => ∃ c0 c1, cs = c0 ++ c1 ∧ a.M w base ok x.1 c0 ∧ b.M w base ok x.2 c1 ∧ ∀ u ∈ c0, ∀ v ∈ c1, NeRow u v
 K_len := (Kd.pair a b).K_len
 K_one := (Kd.pair a b).K_one
 K_below := (Kd.pair a b).K_below
 K_of_M := fun ⟨c0, c1, e, h0, h1, _⟩ => (Kd.pair a b).K_of_M ⟨c0, c1, e, h0, h1⟩
 M_mono := fun hok ⟨c0, c1, e, h0, h1, n⟩ => ⟨c0, c1, e, a.M_mono hok h0, b.M_mono hok h1, n⟩
 M_bound := by
  rintro w base ok x cs ⟨c0, c1, rfl, h0, h1, n⟩
  refine ⟨c0, c1, rfl, a.M_mono ?_ (a.M_bound h0), b.M_mono ?_ (b.M_bound h1), n⟩
  ·rintro k ⟨h2, h3, h4, q, hq, hc⟩
   exact ⟨h2, h3, h4, q, List.mem_append_left _ hq, hc⟩
  ·rintro k ⟨h2, h3, h4, q, hq, hc⟩
   exact ⟨h2, h3, h4, q, List.mem_append_right _ hq, hc⟩
 M_move := fun hm ⟨c0, c1, e, h0, h1, n⟩ => ⟨c0, c1, e, a.M_move hm h0, b.M_move hm h1, n⟩
 M_lower := fun hb ⟨c0, c1, e, h0, h1, n⟩ => ⟨c0, c1, e, a.M_lower hb h0, b.M_lower hb h1, n⟩
def k38 : Kd S38 := Kd.iso (pairN (Kd.slice 3 (Kd.int .i64)) (Kd.slice 3 (Kd.int .i64))) (fun x : S38 => (x.f0, x.f1))
theorem k38_open {w : World} {x : S38} {cs : List Value} (h : k38.K w x cs) : ∃ A0 c0 A1 c1, cs = [.slice A0 x.f0.length c0, .slice A1 x.f1.length c1] ∧ x.f0.length ≤ c0 ∧ (Kd.int .i64).C w A0 x.f0.length x.f0 ∧ x.f1.length ≤ c1 ∧ (Kd.int .i64).C w A1 x.f1.length x.f1 := by
 obtain ⟨_, _, rfl, ⟨A0, c0, rfl, l0, g0⟩, ⟨A1, c1, rfl, l1, g1⟩⟩ := h
 exact ⟨A0, c0, A1, c1, rfl, l0, g0, l1, g1⟩
theorem k38_openN {w : World} {base : Nat} {ok : Nat → Prop} {x : S38} {cs : List Value} (h : k38.M w base ok x cs) : ∃ v0 v1, cs = [v0, v1] ∧ (Kd.int .i64).R 3 w base ok v0 x.f0 ∧ (Kd.int .i64).R 3 w base ok v1 x.f1 ∧ NeRow v0 v1 := by
 obtain ⟨_, _, rfl, ⟨v0, rfl, g0⟩, ⟨v1, rfl, g1⟩, n⟩ := h
 exact ⟨v0, v1, rfl, g0, g1, n v0 (by simp) v1 (by simp)⟩
theorem k38_mk (w : World) (x : S38) {A0 : Option Addr} {c0 : Nat} (l0 : x.f0.length ≤ c0) (g0 : (Kd.int .i64).C w A0 x.f0.length x.f0) {A1 : Option Addr} {c1 : Nat} (l1 : x.f1.length ≤ c1) (g1 : (Kd.int .i64).C w A1 x.f1.length x.f1) : k38.K w x [.slice A0 x.f0.length c0, .slice A1 x.f1.length c1] := ⟨[.slice A0 x.f0.length c0], [.slice A1 x.f1.length c1], rfl, ⟨A0, c0, rfl, l0, g0⟩, ⟨A1, c1, rfl, l1, g1⟩⟩
theorem k38_mkM (w : World) (base : Nat) (ok : Nat → Prop) (x : S38) {v0 : Value} (g0 : (Kd.int .i64).R 3 w base ok v0 x.f0) {v1 : Value} (g1 : (Kd.int .i64).R 3 w base ok v1 x.f1) (ne : NeRow v0 v1) : k38.M w base ok x [v0, v1] := ⟨[v0], [v1], rfl, ⟨v0, rfl, g0⟩, ⟨v1, rfl, g1⟩, fun u hu v hv => by rw [List.mem_singleton.1 hu, List.mem_singleton.1 hv]; exact ne⟩
theorem k38_openF {W : World} {ok : Nat → Prop} {x : S38} {cs : List Value} (h : Kd.FK k38 W ok x cs) : ∃ A0 c0 A1 c1, cs = [.slice A0 x.f0.length c0, .slice A1 x.f1.length c1] ∧ x.f0.length ≤ c0 ∧ Kd.F (Kd.int .i64) W ok A0 x.f0.length x.f0 ∧ x.f1.length ≤ c1 ∧ Kd.F (Kd.int .i64) W ok A1 x.f1.length x.f1 := by
 obtain ⟨A0, c0, A1, c1, rfl, l0, _, l1, _⟩ := k38_open (Kd.FK_now h)
 exact ⟨A0, c0, A1, c1, rfl, l0, (fun W' hW => by obtain ⟨A0_, c0_, A1_, c1_, he, l0_, g0_, l1_, g1_⟩ := k38_open (h W' hW); injection (Option.some.inj (show some (Value.slice A0 x.f0.length c0) = some (Value.slice A0_ x.f0.length c0_) from congrArg (fun l => l[0]?) he)) with ha_ _ _; rw [ha_]; exact g0_), l1, (fun W' hW => by obtain ⟨A0_, c0_, A1_, c1_, he, l0_, g0_, l1_, g1_⟩ := k38_open (h W' hW); injection (Option.some.inj (show some (Value.slice A1 x.f1.length c1) = some (Value.slice A1_ x.f1.length c1_) from congrArg (fun l => l[1]?) he)) with ha_ _ _; rw [ha_]; exact g1_)⟩
theorem k38_mkF (W : World) (ok : Nat → Prop) (x : S38) {A0 : Option Addr} {c0 : Nat} (l0 : x.f0.length ≤ c0) (g0 : Kd.F (Kd.int .i64) W ok A0 x.f0.length x.f0) {A1 : Option Addr} {c1 : Nat} (l1 : x.f1.length ≤ c1) (g1 : Kd.F (Kd.int .i64) W ok A1 x.f1.length x.f1) : Kd.FK k38 W ok x [.slice A0 x.f0.length c0, .slice A1 x.f1.length c1] := fun W2 hW => k38_mk W2 x l0 (g0 W2 hW) l1 (g1 W2 hW)
def rd_T38 (xs : List S38) (i : Int) : S38 := xs.getD i.toNat z38
theorem at_T38 {w : World} {A : Option Addr} {n : Nat} {xs : List S38} (h : Kd.C k38 w A n xs) (i : Int) (h0 : 0 ≤ i) (h1 : i < n) : ∃ ad A0 c0 A1 c1, A = some ad ∧ w.cell? (ad.add (i.toNat * 2)) = some (.slice A0 (rd_T38 xs i).f0.length c0) ∧ w.cell? ⟨(ad.add (i.toNat * 2)).block, (ad.add (i.toNat * 2)).off + 1, none⟩ = some (.slice A1 (rd_T38 xs i).f1.length c1) ∧ (rd_T38 xs i).f0.length ≤ c0 ∧ (Kd.int .i64).C w A0 (rd_T38 xs i).f0.length (rd_T38 xs i).f0 ∧ (rd_T38 xs i).f1.length ≤ c1 ∧ (Kd.int .i64).C w A1 (rd_T38 xs i).f1.length (rd_T38 xs i).f1 := by
 obtain ⟨ad, c, e, _, hK, hc0⟩ := Kd.C_get h z38 i h0 h1
 have hc : ∀ j u, c[j]? = some u → w.cell? (ad.add (i.toNat * 2 + j)) = some u := hc0
 obtain ⟨A0, c0, A1, c1, rfl, l0, g0, l1, g1⟩ := k38_open hK
 exact ⟨ad, A0, c0, A1, c1, e, hc 0 _ rfl, by rw [← add_field _ _ 1 (by omega)]; exact hc 1 _ rfl, l0, g0, l1, g1⟩
end Go.Proofs.YtoijcallajegfaaGreat.A
end
section
/- Short words for printed texts. No conditions. -/
namespace Go.Proofs.YtoijcallajegfaaGreat.A
open Go.RowKit Go.Proofs.YtoijcallajegfaaGreatW.PrintWords Go.Proofs.YtoijcallajegfaaGreatW.PrintLast Go.Proofs.YtoijcallajegfaaGreatW.PrintMore
set_option linter.unusedVariables false
theorem qa_ {p : Prop} (h : p := by (try simp only [List.map_toArray, List.map_cons, List.map_nil]); first | done | rfl | (simp only [List.length_drop, List.length_take]; rfl)) : p := h
theorem qb_ {p : Prop} (h : p := by first | rfl | (simp [errW_none, errW_some] <;> rfl) | (simp [*, errW_none, errW_some] <;> rfl)) : p := h
theorem qc_ {p : Prop} (h : p := by first | rfl | (simp; done) | (simp [*]; done)) : p := h
theorem qd_ {p : Prop} (h : p := by first | omega | exact Nat.le_refl _) : p := h
theorem qe_ {p : Prop} (h : p := by first | (with_reducible assumption) | assumption) : p := h
theorem hB_ {p : Prop} (h : p := by repeat (first | (with_reducible first | exact HB.out | apply below_alloc | apply pw_below_drewN | apply below_drew1 | refine below_set ?_ (Aside0.out (by assumption))) | exact HB.out)) : p := h
theorem kk_ {w W : World} {g : Nat} {o : Obj} (a : Aside0 (w.heap[g]? = some o)) (hw : Below w.heap.size w W := by repeat (first | (with_reducible first | exact Below.refl _ _ | apply below_alloc | apply pw_below_drewN | apply below_drew1) | exact Below.refl _ _)) : W.heap[g]? = some o := blk_below a.out hw
theorem bb_ {w W w1 : World} {g : Nat} {o : Obj} (a : Aside0 (w.heap[g]? = some o)) (hb : Below W.heap.size W w1) (hw : Below w.heap.size w W := by repeat (first | (with_reducible first | exact Below.refl _ _ | apply below_alloc | apply pw_below_drewN | apply below_drew1) | exact Below.refl _ _)) : Aside0 (w1.heap[g]? = some o) := ⟨blk_below (blk_below a.out hw) hb⟩
section
variable {α : Type} {d : Kd α} {e n c : Nat} {b : Nat} {ok : Nat → Prop} {v : Value} {xs : List α} {A : Option Addr} {w W w1 : World}
theorem rr_ (a : Aside0 (d.R e w b ok v xs)) (hw : Below w.heap.size w W := by repeat (first | (with_reducible first | exact Below.refl _ _ | apply below_alloc | apply pw_below_drewN | apply below_drew1) | exact Below.refl _ _)) : d.R e W b ok v xs := Kd.R_below a.out hw
theorem rw_ (a : d.R e w b ok v xs) (hw : Below w.heap.size w W := by repeat (first | (with_reducible first | exact Below.refl _ _ | apply below_alloc | apply pw_below_drewN | apply below_drew1) | exact Below.refl _ _)) : d.R e W b ok v xs := Kd.R_below a hw
theorem rb_ (a : Aside0 (d.R e w b ok v xs)) (hb : Below W.heap.size W w1) (hw : Below w.heap.size w W := by repeat (first | (with_reducible first | exact Below.refl _ _ | apply below_alloc | apply pw_below_drewN | apply below_drew1) | exact Below.refl _ _)) : Aside0 (d.R e w1 b ok v xs) := ⟨Kd.R_below (Kd.R_below a.out hw) hb⟩
theorem ss_ (a : Aside0 (Kd.S d e w b ok v xs)) (hw : Below w.heap.size w W := by repeat (first | (with_reducible first | exact Below.refl _ _ | apply below_alloc | apply pw_below_drewN | apply below_drew1) | exact Below.refl _ _)) : Kd.S d e W b ok v xs := Kd.S_below a.out hw
theorem sw_ (a : Kd.S d e w b ok v xs) (hw : Below w.heap.size w W := by repeat (first | (with_reducible first | exact Below.refl _ _ | apply below_alloc | apply pw_below_drewN | apply below_drew1) | exact Below.refl _ _)) : Kd.S d e W b ok v xs := Kd.S_below a hw
theorem sb_ (a : Aside0 (Kd.S d e w b ok v xs)) (hb : Below W.heap.size W w1) (hw : Below w.heap.size w W := by repeat (first | (with_reducible first | exact Below.refl _ _ | apply below_alloc | apply pw_below_drewN | apply below_drew1) | exact Below.refl _ _)) : Aside0 (Kd.S d e w1 b ok v xs) := ⟨Kd.S_below (Kd.S_below a.out hw) hb⟩
theorem cb_ (a : Aside0 (d.C w A n xs)) (hw : Below w.heap.size w W := by repeat (first | (with_reducible first | exact HB.out | apply below_alloc | apply pw_below_drewN | apply below_drew1 | refine below_set ?_ (Aside0.out (by assumption))) | exact HB.out)) : d.C W A n xs := Kd.C_below a.out hw
theorem cc_ (a : Aside0 (d.C w A n xs)) (hw : Below w.heap.size w W := by repeat (first | (with_reducible first | exact Below.refl _ _ | apply below_alloc | apply pw_below_drewN | apply below_drew1) | exact Below.refl _ _)) : d.C W A n xs := Kd.C_below a.out hw
theorem cw_ (a : d.C w A n xs) (hw : Below w.heap.size w W := by repeat (first | (with_reducible first | exact Below.refl _ _ | apply below_alloc | apply pw_below_drewN | apply below_drew1) | exact Below.refl _ _)) : d.C W A n xs := Kd.C_below a hw
theorem cr_ (a : Aside0 (d.R e w b ok (.slice A n c) xs)) (hw : Below w.heap.size w W := by repeat (first | (with_reducible first | exact Below.refl _ _ | apply below_alloc | apply pw_below_drewN | apply below_drew1) | exact Below.refl _ _)) : d.C W A xs.length xs := Kd.C_below (Kd.R_reads' a.out).2.2 hw
end
theorem b1_ {w W w1 : World} (hb : Below W.heap.size W w1) (h : Below w.heap.size w W := by repeat (first | (with_reducible first | exact HB.out | apply below_alloc | apply pw_below_drewN | apply below_drew1 | refine below_set ?_ (Aside0.out (by assumption))) | exact HB.out)) : Aside0 (Below w.heap.size w w1) := ⟨below_step h hb⟩
theorem gx_ {n m k : Nat} (hg : k = m) (h : n ≤ m) : n ≤ k := hg ▸ h
theorem gn_ {n m k : Nat} (hg : k = m) (h : n < m) : n ≠ k := hg ▸ Nat.ne_of_lt h
theorem gp_ {n m k : Nat} (hg : k = m) (h : n < m) : k ≠ n := hg ▸ Nat.ne_of_gt h
theorem cz0_ {w : World} {g : Nat} {t : TypeId} {l : List Value} {v0 : Value} (h : Aside0 (w.heap[g]? = some (.cells (List.toArray (v0 :: l)) t (0, 0)))) : w.cell? ⟨g, 0, none⟩ = some v0 := (blk_cell h.out 0).trans rfl
theorem cz1_ {w : World} {g : Nat} {t : TypeId} {l : List Value} {v0 v1 : Value} (h : Aside0 (w.heap[g]? = some (.cells (List.toArray (v0 :: v1 :: l)) t (0, 0)))) : w.cell? ⟨g, 1, none⟩ = some v1 := (blk_cell h.out 1).trans rfl
theorem c2_ {w : World} {g : Nat} {t : TypeId} {v0 v1 : Value} (h : Aside0 (w.heap[g]? = some (.cells (List.toArray [v0, v1]) t (0, 0)))) : w.cell? ⟨g, 0, none⟩ = some v0 ∧ w.cell? ⟨g, 1, none⟩ = some v1 ∧ w.frozen? ⟨g, 0, none⟩ = false ∧ w.frozen? ⟨g, 1, none⟩ = false := ⟨cz0_ h, cz1_ h, blk_frozen h.out 0, blk_frozen h.out 1⟩
theorem gw_ (w : World) {W : World} {g : Nat} (hg : g = W.heap.size) (h : Below w.heap.size w W := by repeat (first | (with_reducible first | exact HB.out | apply below_alloc | apply pw_below_drewN | apply below_drew1 | refine below_set ?_ (Aside0.out (by assumption))) | exact HB.out)) : Aside0 (w.heap.size ≤ g) := ⟨gx_ hg (below_size h)⟩
theorem gN_ {w W : World} {g k : Nat} {o : Obj} (a : Aside0 (w.heap[g]? = some o)) (hg : k = W.heap.size) (hw : Below w.heap.size w W := by repeat (first | (with_reducible first | exact Below.refl _ _ | apply below_alloc | apply pw_below_drewN | apply below_drew1) | exact Below.refl _ _)) : Aside0 (g ≠ k) := ⟨gn_ hg (blk_lt (blk_below a.out hw))⟩
theorem gP_ {w W : World} {g k : Nat} {o : Obj} (a : Aside0 (w.heap[g]? = some o)) (hg : k = W.heap.size) (hw : Below w.heap.size w W := by repeat (first | (with_reducible first | exact Below.refl _ _ | apply below_alloc | apply pw_below_drewN | apply below_drew1) | exact Below.refl _ _)) : Aside0 (k ≠ g) := ⟨gp_ hg (blk_lt (blk_below a.out hw))⟩
theorem rl_ {α : Type} {d : Kd α} {e : Nat} {ok : Nat → Prop} {v : Value} {xs : List α} (w : World) {W w1 : World} (a : d.R e w1 W.heap.size ok v xs) (h : Below w.heap.size w W := by repeat (first | (with_reducible first | exact HB.out | apply below_alloc | apply pw_below_drewN | apply below_drew1 | refine below_set ?_ (Aside0.out (by assumption))) | exact HB.out)) : Aside0 (d.R e w1 w.heap.size ok v xs) := ⟨Kd.R_lower a (below_size h)⟩
theorem cp_ {α : Type} {c : Prop} [Decidable c] {a : Option α} {r : α} (H : (if c then a else none) = some r) : c := Classical.byContradiction fun h => by rw [if_neg h] at H; cases H
theorem ca_ {α : Type} {c : Prop} [Decidable c] {a : Option α} {r : α} (H : (if c then a else none) = some r) : a = some r := by rw [if_pos (cp_ H)] at H; exact H
theorem bi_ {α β : Type} {x : Option α} {f : α → Option β} {r : β} (H : x.bind f = some r) : ∃ a, Aside0 (x = some a) ∧ f a = some r := by obtain ⟨a, h, k⟩ := Option.bind_eq_some_iff.mp H; exact ⟨a, ⟨h⟩, k⟩
theorem qp_ {p : Prop} (h : p := by (with_reducible repeat (first | refine blk_drewN ?_ _ | refine blk_drew ?_ | refine blk_alloc ?_ _)); apply blk_put; (with_reducible repeat (first | refine blk_drewN ?_ _ | refine blk_drew ?_ | refine blk_alloc ?_ _)); apply blk_put; (with_reducible repeat (first | refine blk_drewN ?_ _ | refine blk_drew ?_ | refine blk_alloc ?_ _)); exact Aside0.out (by assumption); all_goals rfl) : p := h
theorem fa_ {α : Type} {d : Kd α} {e b g t : Nat} {ok : Nat → Prop} {v u0 u1 : Value} {xs : List α} {w : World} {cs : Array Value} (a : Aside0 (d.R e w b ok v xs)) (h : Aside0 (w.heap[g]? = some (.cells cs t (0, 0)))) (ht : ∀ q, q ∈ e :: d.E → q ≠ t := by decide) : d.R e ((w.setCell ⟨g, 0, none⟩ u0).setCell ⟨g, 1, none⟩ u1) b ok v xs := Kd.R_mono (Kd.R_far (p := ⟨g, 1, none⟩) (Kd.R_far (p := ⟨g, 0, none⟩) (Kd.R_types a.out h.out ht) (fun _ hk => hk.2) u0) (fun _ hk => hk.2) u1) (fun _ hk => hk.1)
def bl_ (n m : Nat) : Array Bool := ((List.range n).map fun i => m.testBit i).toArray
theorem lo_ {α : Type} {a b : Option α} (h : LeO a b := by first | exact LeO.refl _ | exact LeO.none _) : LeO a b := h
section
variable {P : Program} {ops : Array Oper} {rest : List Oper} {o : Oper} {a : Act} {Q : Exit → Act → World → Prop} {S : World → Prop} {ds : List Nat} {md : Region.Mode} {T : Bool × List (List Nat × List Nat)} {B : List Nat}
theorem bx_ {W : World} (N : Tmp) (cs : Array Value) (t : TypeId) (h : ∀ g, g = W.heap.size → ∀ w1, w1.heap[g]? = some (.cells cs t (0, 0)) → Below W.heap.size W w1 → wpList P ops Q rest (a.put o.dst (.pointer (some ⟨g, 0, none⟩))) w1) (hgd : o.guard = none := by rfl) (hd : o.dst = some N := by rfl) (hrun : (execOp a.eval o).run P W = .ok (.value (.pointer (some ⟨W.heap.size, 0, none⟩))) (W.alloc (.cells cs t (0, 0))) := by first | (go_simp; done) | (go_simp; rfl)) : wpList P ops Q (o :: rest) a W := box_event hgd hd hrun h
theorem gL_ {w : World} (N : Option Tmp) {f : FuncId} {fn : Func} {az : Array Operand} {ts : Array TypeId} (hf : P.funcs[f]? = some fn) (args : Array Value) (hop : o.op = .call { callee := .value (.func f), args := az, argTypes := ts }) (hargs : az.map a.eval = args) (h : Calls P f args w fun e w' => ∃ v, e = .returned v ∧ wpList P ops Q rest (a.put N v) w') (hd : o.dst = N := by rfl) (hg : o.guard = none := by rfl) (hname : (fn.name == "runtime.NumGoroutine") = false := by kernel_rfl) (hb : fn.body.isSome = true := by rfl) : wpList P ops Q (o :: rest) a w := goesL_ N hd hg hf hname hb args hop hargs h
theorem gO_ {N : Option Tmp} {w : World} {K : Act → World → Prop} {f : FuncId} {fn : Func} {az : Array Operand} {ts : Array TypeId} (hf : P.funcs[f]? = some fn) (args : Array Value) (hw : Region.wanted o (yielded ops a.tmps) = true) (hN : o.dst = N) (hop : o.op = .call { callee := .value (.func f), args := az, argTypes := ts }) (hargs : az.map a.eval = args) (h : Calls P f args w fun e w' => ∃ v, e = .returned v ∧ K (a.put N v) w') (hname : (fn.name == "runtime.NumGoroutine") = false := by kernel_rfl) (hb : fn.body.isSome = true := by rfl) : if Region.wanted o (yielded ops a.tmps) = true then Oper.wp P o a w K Q else K (a.put N undef) w := goes_ hf hname hb args hw hN hop hargs h
theorem goesF_ {N : Option Tmp} {w : World} {K : Act → World → Prop} {f : FuncId} {fn : Func} {c : Operand} {az : Array Operand} {ts : Array TypeId} (hf : P.funcs[f]? = some fn) (hname : (fn.name == "runtime.NumGoroutine") = false) (hb : fn.body.isSome = true) (args : Array Value) (hw : Region.wanted o (yielded ops a.tmps) = true) (hN : o.dst = N) (hop : o.op = .call { callee := .value c, args := az, argTypes := ts }) (hargs : az.map a.eval = args) (h : Calls P f args w fun e w' => ∃ v, e = .returned v ∧ K (a.put N v) w') (hc : a.eval c = .func (.func f) #[] #[] := by rfl) : if Region.wanted o (yielded ops a.tmps) = true then Oper.wp P o a w K Q else K (a.put N undef) w := by
 refine call_ f args hw hN ?_ h
 have he := enters_ hf hname hb args w
 unfold execOp
 simp [hop, resolve, Deferred.ofValue, invoke, hargs, he, hc]
theorem pu_ (i : Nat) (N : Option Tmp) {v : Value} {fuel : Nat} {l : Array Bool} {w : World} (l' : Array Bool) (hT : Aside0 (rtab md ops = T)) {a' : Act} (h : wpAnyLast P md ops Q S ds fuel l' a' w) (hi : ops[i]? = some o := by rfl) (hN : o.dst = N := by rfl) (hc : anyT T l.toList l'.toList i = true := by kernel_rfl) (hQ : ∀ c a w, Q (.panic c) (a.put o.dst v) w → Q (.panic c) a w := by exact fun _ _ _ h => h) (hg : o.guard = none ∨ True := by exact .inr trivial) (hy : Yields P ops o v a := by exact Or.inl ⟨by rfl, by intro w'; go_simp; with_reducible rfl⟩) (ha : a.put N v = a' := by simp only [Act.put, List.setIfInBounds_toArray, List.set_cons_zero, List.set_cons_succ, i64_w, i32_w]; rfl) : wpAnyLast P md ops Q S ds (fuel + 1) l a w := pure_ l' hi hN (any_of hT.out hc) hQ hy ha h
theorem ta_ (i : Nat) (N : Option Tmp) {v : Value} {fuel : Nat} {l : Array Bool} {w : World} (l' : Array Bool) (hT : Aside0 (rtab md ops = T)) (hB : Aside0 (waitsOk T.2 B = true)) (hS : S w) {a' : Act} (h : wpAnyLast P md ops Q S ds fuel l' a' w) (hi : ops[i]? = some o := by rfl) (hN : o.dst = N := by rfl) (hc : takeW T B ds l.toList l'.toList i = true := by kernel_rfl) (hQ : ∀ c a w, Q (.panic c) (a.put o.dst v) w → Q (.panic c) a w := by exact fun _ _ _ h => h) (hy : YieldsIf P ops S o v a := by exact Or.inl ⟨by rfl, by intro w' hs_; (repeat obtain ⟨s_, hs_⟩ := hs_); go_simp; with_reducible rfl⟩) (ha : a.put N v = a' := by simp only [Act.put, List.setIfInBounds_toArray, List.set_cons_zero, List.set_cons_succ, i64_w, i32_w]; rfl) : wpAnyLast P md ops Q S ds (fuel + 1) l a w := take_ l' hi hN (take_ofW hT.out hB.out hc) hQ hy hS ha h
theorem on_ (i : Nat) (N : Option Tmp) {fuel : Nat} {l : Array Bool} {w : World} (l' : Array Bool) (hT : Aside0 (rtab md ops = T)) (h : ∀ K : Act → World → Prop, Shut (∀ a' w', S w' → (S w' → wpAnyLast P md ops Q S ds fuel l' a' w') → K a' w') → if Region.wanted o (yielded ops a.tmps) = true then Oper.wp P o a w K Q else K (a.put N undef) w) (hi : ops[i]? = some o := by rfl) (hN : o.dst = N := by rfl) (hc : (readyT T.2 l.toList == [i] && l.toList.set i true == l'.toList) = true := by kernel_rfl) (hd : i ∉ ds := by decide) : wpAnyLast P md ops Q S ds (fuel + 1) l a w := one_ l' hi hN (one_of hT.out hc) hd h
theorem no_ {v : Value} {fuel : Nat} {l : Array Bool} {w : World} (N : Option Tmp) {a' : Act} (h : wpAnyLast P md ops Q S ds fuel l a' w) (ha : a.put N v = a' := by simp only [Act.put, List.setIfInBounds_toArray, List.set_cons_zero, List.set_cons_succ, i64_w, i32_w]; rfl) : wpAnyLast P md ops Q S ds fuel l (a.put N v) w := norm_ ha h
end
end Go.Proofs.YtoijcallajegfaaGreat.A
end
section
namespace Go.Proofs.YtoijcallajegfaaGreat.A
open Go.RowKit Go.Proofs.YtoijcallajegfaaGreatW.PrintWords Go.Proofs.YtoijcallajegfaaGreatW.PrintLast Go.Proofs.YtoijcallajegfaaGreatW.PrintMore
attribute [local go_sem] max2_int min2_int max_two min_two max_three min_three max_four min_four
set_option linter.unusedVariables false
set_option linter.unusedSimpArgs false
def Z52.l0 : Nat → List Int → List Int → Int → Int → Option (Bool)
 | 0, _, _, _, _ => none
 | k + 1, x1, x12, x13, x14 => if x14 < x13 then (if 0 ≤ x14 then (if x14 < (x12.length : Int) then (if x14 < (x1.length : Int) then (if (rd x12 x14) = (rd x1 x14) then (Z52.l0 k x1 x12 x13 (wrap64 (x14 + 1))) else (some false)) else (none)) else (none)) else (none)) else (some true)
def Z52.f (k : Nat) (l0 : List Int) (l1 : List Int) : Option (Bool) := if (l0.length : Int) = (l1.length : Int) then (Z52.l0 k l1 l0 (l0.length : Int) 0) else (some false)
theorem Z52.mono_l : ∀ k, (∀ y0 y1 y2 y3, LeO (Z52.l0 k y0 y1 y2 y3) (Z52.l0 (k + 1) y0 y1 y2 y3))
 | 0 => fun _ _ _ _ r h => by simp [Z52.l0] at h
 | k + 1 => by
  have ih0 := Z52.mono_l k
  ·intro y0 y1 y2 y3
   unfold Z52.l0
   repeat' first|exact ih0 _ _ _ _|exact lo_|refine LeO.ite ?_ ?_|refine LeO.bind ?_ (fun _ => ?_)
theorem Z52.mono : ∀ a0 a1 k, LeO (Z52.f k a0 a1) (Z52.f (k + 1) a0 a1) := by
 intro a0 a1 k
 have ih0 := Z52.mono_l k
 unfold Z52.f
 repeat' first|exact ih0 _ _ _ _|exact lo_|refine LeO.ite ?_ ?_|refine LeO.bind ?_ (fun _ => ?_)
set_option maxHeartbeats 8000000 in
set_option maxRecDepth 100000 in
theorem Z52.calls (k : Nat) (A0 : Option Addr) (c0 : Nat) (l0 : List Int) (A1 : Option Addr) (c1 : Nat) (l1 : List Int) (r : Bool) (w : World) (hr0 : Kd.C (Kd.int .i64) w A0 l0.length l0) (hc0 : l0.length ≤ c0) (hr1 : Kd.C (Kd.int .i64) w A1 l1.length l1) (hc1 : l1.length ≤ c1) (h : Z52.f k l0 l1 = some r) :
  Calls Tryz.prog 21 #[.slice A0 l0.length c0, .slice A1 l1.length c1] w fun e w' => e = .returned (.bool r) ∧ Drawn0 w w' := by
 have HR0 := A_ hr0
 have HC0 := A_ hc0
 clear hr0 hc0
 have HR1 := A_ hr1
 have HC1 := A_ hc1
 clear hr1 hc1
 have H := h
 unfold Z52.f at H
 clear h
 by_cases c3 : (l0.length : Int) = (l1.length : Int)
 ·rw [if_pos c3] at H
  have c3b0 : ((l0.length : Int) == (l1.length : Int)) = true := beq_iff_eq.mpr c3
  have c3b1 : ((l0.length : Int) != (l1.length : Int)) = false := bne_eq_false_iff_eq.mpr c3
  have c3b2 : (l0.length == l1.length) = true := by first | simpa using c3 | (simp at c3 ⊢; omega)
  clear c3
  have H' := A_ H
  clear H
  go_enter Tryz.func21, Tryz.ntmps21
  go_wp2
  go_loopg [14] k (fun kq v14 w' => ∃ (x14_1 : Int), v14 = .int .i64 x14_1 ∧ Aside0 (Z52.l0 kq l1 l0 (l0.length : Int) x14_1 = some r) ∧ Aside0 (kq ≤ k) ∧ Drawn0 w w')
  case atStart => exact ⟨(0), qc_, H', ⟨nA_ _⟩, by repeat (first | exact Drawn0.refl _ | apply Drawn0.step)⟩
  case round =>
   clear H'
   obtain ⟨x14_1, rfl, HA, HK1, ⟨m1, rfl⟩⟩ := hrel
   cases gk with
   | zero => exact absurd HA.out (by simp [Z52.l0])
   | succ k1 =>
    have H := HA.out
    clear HA
    simp only [Z52.l0] at H
    by_cases c4 : x14_1 < (l0.length : Int)
    ·rw [if_pos c4] at H
     have c4b0 := oC_ c4
     clear c4
     have c5 := cp_ H
     replace H := ca_ H
     have c5b0 := oC_ c5
     clear c5
     have c6 := cp_ H
     replace H := ca_ H
     have c6b0 := oC_ c6
     clear c6
     have c7 := cp_ H
     replace H := ca_ H
     have c7b0 := oC_ c7
     clear c7
     by_cases c8 : (rd l0 x14_1) = (rd l1 x14_1)
     ·rw [if_pos c8] at H
      have c8b0 : ((rd l0 x14_1) == (rd l1 x14_1)) = true := beq_iff_eq.mpr c8
      have c8b1 : ((rd l0 x14_1) != (rd l1 x14_1)) = false := bne_eq_false_iff_eq.mpr c8
      clear c8
      have H' := A_ H
      clear H
      have p151 : 0 ≤ (x14_1 : Int) := oB_ qe_
      have q151 : x14_1 < (l0.length : Int) := oB_ qe_
      obtain ⟨ad151, e151, hx151_0⟩ := Kd.at_int HR0.out x14_1 p151 q151
      cases e151
      replace p151 := eq_true p151
      replace q151 := eq_true q151
      have p152 : 0 ≤ (x14_1 : Int) := oB_ qe_
      have q152 : x14_1 < (l1.length : Int) := oB_ qe_
      obtain ⟨ad152, e152, hx152_0⟩ := Kd.at_int HR1.out x14_1 p152 q152
      cases e152
      replace p152 := eq_true p152
      replace q152 := eq_true q152
      go_wp2
      go_roundg k1
      case measure => have := HK1.out; omega
      case rel => exact ⟨(wrap64 (x14_1 + 1)), qc_, H', ⟨by have := HK1.out; omega⟩, by repeat (first | exact Drawn0.refl _ | apply Drawn0.step)⟩
     ·rw [if_neg c8] at H
      have c8b0 : ((rd l0 x14_1) == (rd l1 x14_1)) = false := beq_eq_false_iff_ne.mpr c8
      have c8b1 : ((rd l0 x14_1) != (rd l1 x14_1)) = true := bne_iff_ne.mpr c8
      obtain rfl := Option.some.inj H
      have p151 : 0 ≤ (x14_1 : Int) := oB_ qe_
      have q151 : x14_1 < (l0.length : Int) := oB_ qe_
      obtain ⟨ad151, e151, hx151_0⟩ := Kd.at_int HR0.out x14_1 p151 q151
      cases e151
      replace p151 := eq_true p151
      replace q151 := eq_true q151
      have p152 : 0 ≤ (x14_1 : Int) := oB_ qe_
      have q152 : x14_1 < (l1.length : Int) := oB_ qe_
      obtain ⟨ad152, e152, hx152_0⟩ := Kd.at_int HR1.out x14_1 p152 q152
      cases e152
      replace p152 := eq_true p152
      replace q152 := eq_true q152
      go_wp2
      go_ret
      exact ⟨qc_, by repeat (first | exact Drawn0.refl _ | apply Drawn0.step)⟩
    ·rw [if_neg c4] at H
     have c4b0 := oD_ c4
     clear c4
     obtain rfl := Option.some.inj H
     go_wp2
     go_ret
     exact ⟨qc_, by repeat (first | exact Drawn0.refl _ | apply Drawn0.step)⟩
 ·rw [if_neg c3] at H
  have c3b0 : ((l0.length : Int) == (l1.length : Int)) = false := beq_eq_false_iff_ne.mpr c3
  have c3b1 : ((l0.length : Int) != (l1.length : Int)) = true := bne_iff_ne.mpr c3
  have c3b2 : (l0.length == l1.length) = false := by first | simpa using c3 | (simp at c3 ⊢; omega)
  obtain rfl := Option.some.inj H
  go_enter Tryz.func21, Tryz.ntmps21
  go_wp2
  go_ret
  exact ⟨qc_, by repeat (first | exact Drawn0.refl _ | apply Drawn0.step)⟩
def Z66.f (a0 : Int) (a1 : Int) (a2 : Int) : Option (Bool) := if a0 ≥ a1 then (some (decide (a0 ≤ a2))) else (some false)
set_option maxHeartbeats 8000000 in
set_option maxRecDepth 100000 in
theorem Z66.calls (a0 : Int) (a1 : Int) (a2 : Int) (r : Bool) (w : World) (h : Z66.f a0 a1 a2 = some r) :
  Calls Tryz.prog 31 #[.int .i64 a0, .int .i64 a1, .int .i64 a2] w fun e w' => e = .returned (.bool r) ∧ Drawn0 w w' := by
 have H := h
 unfold Z66.f at H
 clear h
 by_cases c4 : a0 ≥ a1
 ·rw [if_pos c4] at H
  have c4b0 : decide (a1 ≤ a0) = true := oC_ c4
  clear c4
  obtain rfl := Option.some.inj H
  go_enter Tryz.func31, Tryz.ntmps31
  go_wp2
  go_ret
  exact ⟨qc_, by repeat (first | exact Drawn0.refl _ | apply Drawn0.step)⟩
 ·rw [if_neg c4] at H
  have c4b0 : decide (a1 ≤ a0) = false := oD_ c4
  clear c4
  obtain rfl := Option.some.inj H
  go_enter Tryz.func31, Tryz.ntmps31
  go_wp2
  go_ret
  exact ⟨qc_, by repeat (first | exact Drawn0.refl _ | apply Drawn0.step)⟩
def Z65.l0 : Nat → Int → List Int → Int → Int → Option (Bool)
 | 0, _, _, _, _ => none
 | k + 1, x1, x7, x8, x9 => if x9 < x8 then (if 0 ≤ x9 then (if x9 < (x7.length : Int) then (if (rd x7 x9) = x1 then (some true) else (Z65.l0 k x1 x7 x8 (wrap64 (x9 + 1)))) else (none)) else (none)) else (some false)
def Z65.f (k : Nat) (l0 : List Int) (a1 : Int) : Option (Bool) := Z65.l0 k a1 l0 (l0.length : Int) 0
theorem Z65.mono_l : ∀ k, (∀ y0 y1 y2 y3, LeO (Z65.l0 k y0 y1 y2 y3) (Z65.l0 (k + 1) y0 y1 y2 y3))
 | 0 => fun _ _ _ _ r h => by simp [Z65.l0] at h
 | k + 1 => by
  have ih0 := Z65.mono_l k
  ·intro y0 y1 y2 y3
   unfold Z65.l0
   repeat' first|exact ih0 _ _ _ _|exact lo_|refine LeO.ite ?_ ?_|refine LeO.bind ?_ (fun _ => ?_)
theorem Z65.mono : ∀ a0 a1 k, LeO (Z65.f k a0 a1) (Z65.f (k + 1) a0 a1) := by
 intro a0 a1 k
 have ih0 := Z65.mono_l k
 unfold Z65.f
 repeat' first|exact ih0 _ _ _ _|exact lo_|refine LeO.ite ?_ ?_|refine LeO.bind ?_ (fun _ => ?_)
set_option maxHeartbeats 8000000 in
set_option maxRecDepth 100000 in
theorem Z65.calls (k : Nat) (A0 : Option Addr) (c0 : Nat) (l0 : List Int) (a1 : Int) (r : Bool) (w : World) (hr0 : Kd.C (Kd.int .i64) w A0 l0.length l0) (hc0 : l0.length ≤ c0) (h : Z65.f k l0 a1 = some r) :
  Calls Tryz.prog 45 #[.slice A0 l0.length c0, .int .i64 a1] w fun e w' => e = .returned (.bool r) ∧ Drawn0 w w' := by
 have HR0 := A_ hr0
 have HC0 := A_ hc0
 clear hr0 hc0
 have H := h
 unfold Z65.f at H
 clear h
 have H' := A_ H
 clear H
 go_enter Tryz.func45, Tryz.ntmps45
 go_wp2
 go_loopg [9] k (fun kq v9 w' => ∃ (x9_1 : Int), v9 = .int .i64 x9_1 ∧ Aside0 (Z65.l0 kq a1 l0 (l0.length : Int) x9_1 = some r) ∧ Aside0 (kq ≤ k) ∧ Drawn0 w w')
 case atStart => exact ⟨(0), qc_, H', ⟨nA_ _⟩, by repeat (first | exact Drawn0.refl _ | apply Drawn0.step)⟩
 case round =>
  clear H'
  obtain ⟨x9_1, rfl, HA, HK1, ⟨m1, rfl⟩⟩ := hrel
  cases gk with
  | zero => exact absurd HA.out (by simp [Z65.l0])
  | succ k1 =>
   have H := HA.out
   clear HA
   simp only [Z65.l0] at H
   by_cases c3 : x9_1 < (l0.length : Int)
   ·rw [if_pos c3] at H
    have c3b0 := oC_ c3
    clear c3
    have c4 := cp_ H
    replace H := ca_ H
    have c4b0 := oC_ c4
    clear c4
    have c5 := cp_ H
    replace H := ca_ H
    have c5b0 := oC_ c5
    clear c5
    by_cases c6 : (rd l0 x9_1) = a1
    ·rw [if_pos c6] at H
     have c6b0 : ((rd l0 x9_1) == a1) = true := beq_iff_eq.mpr c6
     have c6b1 : ((rd l0 x9_1) != a1) = false := bne_eq_false_iff_eq.mpr c6
     clear c6
     obtain rfl := Option.some.inj H
     have p101 : 0 ≤ (x9_1 : Int) := oB_ qe_
     have q101 : x9_1 < (l0.length : Int) := oB_ qe_
     obtain ⟨ad101, e101, hx101_0⟩ := Kd.at_int HR0.out x9_1 p101 q101
     cases e101
     replace p101 := eq_true p101
     replace q101 := eq_true q101
     go_wp2
     go_ret
     exact ⟨qc_, by repeat (first | exact Drawn0.refl _ | apply Drawn0.step)⟩
    ·rw [if_neg c6] at H
     have c6b0 : ((rd l0 x9_1) == a1) = false := beq_eq_false_iff_ne.mpr c6
     have c6b1 : ((rd l0 x9_1) != a1) = true := bne_iff_ne.mpr c6
     have H' := A_ H
     clear H
     have p101 : 0 ≤ (x9_1 : Int) := oB_ qe_
     have q101 : x9_1 < (l0.length : Int) := oB_ qe_
     obtain ⟨ad101, e101, hx101_0⟩ := Kd.at_int HR0.out x9_1 p101 q101
     cases e101
     replace p101 := eq_true p101
     replace q101 := eq_true q101
     go_wp2
     go_roundg k1
     case measure => have := HK1.out; omega
     case rel => exact ⟨(wrap64 (x9_1 + 1)), qc_, H', ⟨by have := HK1.out; omega⟩, by repeat (first | exact Drawn0.refl _ | apply Drawn0.step)⟩
   ·rw [if_neg c3] at H
    have c3b0 := oD_ c3
    clear c3
    obtain rfl := Option.some.inj H
    go_wp2
    go_ret
    exact ⟨qc_, by repeat (first | exact Drawn0.refl _ | apply Drawn0.step)⟩
end Go.Proofs.YtoijcallajegfaaGreat.A
end
section
namespace Go.Proofs.YtoijcallajegfaaGreat.A
open Go.RowKit Go.Proofs.YtoijcallajegfaaGreatW.PrintWords Go.Proofs.YtoijcallajegfaaGreatW.PrintLast Go.Proofs.YtoijcallajegfaaGreatW.PrintMore
attribute [local go_sem] max2_int min2_int max_two min_two max_three min_three max_four min_four
set_option linter.unusedVariables false
set_option linter.unusedSimpArgs false
mutual
def Z56.l0 : Nat → Int → List (List Int) → Int → Option ((List (List Int)))
 | 0, _, _, _ => none
 | k + 1, x0, x3, x4 => if x4 < x0 then (Z56.l1 k x0 x4 (([] : List (List Int))) x3 (x3.length : Int) 0) else (some x3)
def Z56.l1 : Nat → Int → Int → List (List Int) → List (List Int) → Int → Int → Option ((List (List Int)))
 | 0, _, _, _, _, _, _ => none
 | k + 1, x0, x4, x5, x17, x18, x19 => if x19 < x18 then (if 0 ≤ x19 then (if x19 < (x17.length : Int) then (Z56.l2 k x0 x4 x5 (rd_L1 x17 x19) 0 x17 x18 x19) else (none)) else (none)) else (Z56.l0 k x0 x5 (wrap64 (x4 + 1)))
def Z56.l2 : Nat → Int → Int → List (List Int) → List Int → Int → List (List Int) → Int → Int → Option ((List (List Int)))
 | 0, _, _, _, _, _, _, _, _ => none
 | k + 1, x0, x4, x5, x7, x8, x17, x18, x19 => if x8 < x0 then ((Z65.f k x7 x8).bind fun t112 => (if t112 = true then (Z56.l2 k x0 x4 x5 x7 (wrap64 (x8 + 1)) x17 x18 x19) else ((some (([] : List Int) : List Int)).bind fun y113 => (if y113.length + x7.length < 17592186044416 then ((some (y113 ++ x7 : List Int)).bind fun y116 => (if y116.length < 17592186044416 then (if x5.length < 5864062014805 then (Z56.l2 k x0 x4 (x5 ++ [(y116 ++ [x8])]) x7 (wrap64 (x8 + 1)) x17 x18 x19) else (none)) else (none))) else (none))))) else (Z56.l1 k x0 x4 x5 x17 x18 (wrap64 (x19 + 1)))
end
def Z56.f (k : Nat) (a0 : Int) : Option ((List (List Int))) := Z56.l0 k a0 (([(([] : List Int))] : List (List Int))) 0
theorem Z56.mono_l : ∀ k, (∀ y0 y1 y2, LeO (Z56.l0 k y0 y1 y2) (Z56.l0 (k + 1) y0 y1 y2)) ∧ (∀ y0 y1 y2 y3 y4 y5, LeO (Z56.l1 k y0 y1 y2 y3 y4 y5) (Z56.l1 (k + 1) y0 y1 y2 y3 y4 y5)) ∧ (∀ y0 y1 y2 y3 y4 y5 y6 y7, LeO (Z56.l2 k y0 y1 y2 y3 y4 y5 y6 y7) (Z56.l2 (k + 1) y0 y1 y2 y3 y4 y5 y6 y7))
 | 0 => ⟨fun _ _ _ r h => by simp [Z56.l0] at h, fun _ _ _ _ _ _ r h => by simp [Z56.l1] at h, fun _ _ _ _ _ _ _ _ r h => by simp [Z56.l2] at h⟩
 | k + 1 => by
  obtain ⟨ih0, ih1, ih2⟩ := Z56.mono_l k
  refine ⟨?_, ?_, ?_⟩
  ·intro y0 y1 y2
   unfold Z56.l0
   repeat' first|exact ih0 _ _ _|exact ih1 _ _ _ _ _ _|exact ih2 _ _ _ _ _ _ _ _|exact Z65.mono _ _ _|exact lo_|refine LeO.ite ?_ ?_|refine LeO.bind ?_ (fun _ => ?_)
  ·intro y0 y1 y2 y3 y4 y5
   unfold Z56.l1
   repeat' first|exact ih0 _ _ _|exact ih1 _ _ _ _ _ _|exact ih2 _ _ _ _ _ _ _ _|exact Z65.mono _ _ _|exact lo_|refine LeO.ite ?_ ?_|refine LeO.bind ?_ (fun _ => ?_)
  ·intro y0 y1 y2 y3 y4 y5 y6 y7
   unfold Z56.l2
   repeat' first|exact ih0 _ _ _|exact ih1 _ _ _ _ _ _|exact ih2 _ _ _ _ _ _ _ _|exact Z65.mono _ _ _|exact lo_|refine LeO.ite ?_ ?_|refine LeO.bind ?_ (fun _ => ?_)
theorem Z56.mono : ∀ a0 k, LeO (Z56.f k a0) (Z56.f (k + 1) a0) := by
 intro a0 k
 obtain ⟨ih0, ih1, ih2⟩ := Z56.mono_l k
 unfold Z56.f
 repeat' first|exact ih0 _ _ _|exact ih1 _ _ _ _ _ _|exact ih2 _ _ _ _ _ _ _ _|exact Z65.mono _ _ _|exact lo_|refine LeO.ite ?_ ?_|refine LeO.bind ?_ (fun _ => ?_)
set_option maxHeartbeats 8000000 in
set_option maxRecDepth 100000 in
theorem Z56.calls (k : Nat) (a0 : Int) (r : List (List Int)) (w : World) (h : Z56.f k a0 = some r) :
  Calls Tryz.prog 32 #[.int .i64 a0] w fun e w' => ∃ v0_ : Value, e = .returned (v0_) ∧ Kd.N (Kd.slice 3 (Kd.int .i64)) 27 w' w.heap.size (fun k_ => (w.heap.size ≤ k_)) v0_ r ∧ Below w.heap.size w w' := by
 have HB := A_ (Below.refl w.heap.size w)
 have H := h
 unfold Z56.f at H
 clear h
 obtain ⟨y102, hy102⟩ : ∃ y_ : List Int, y_ = (([] : List Int)) := ⟨_, rfl⟩
 replace H : (Z56.l0 k a0 (([y102] : List (List Int))) 0) = some r := by first | (rw [hy102]; exact H) | exact H
 have Ny102 := A_ hy102
 clear hy102
 obtain ⟨y105, hy105⟩ : ∃ y_ : List (List Int), y_ = (([y102] : List (List Int))) := ⟨_, rfl⟩
 replace H : (Z56.l0 k a0 y105 0) = some r := by first | (rw [hy105]; exact H) | exact H
 have Ny105 := A_ hy105
 clear hy105
 have H' := A_ H
 clear H
 go_enter Tryz.func32, Tryz.ntmps32
 go_wp2_with (first | ((with_reducible refine gB_ (N := 9) rfl ?_); refine Kd.R_lit (Kd.int .i64) _ 3 ?hg (N := 9) ?hd (xs := ([] : List Int)) (inner := []) (ok := fun _ => True) (okp := fun _ => True) ?hr ?hp (fun _ hk => hk) trivial (Below.refl _ _) (nA_ _) (by simp) ?_; (case hd => rfl); (case hg => rfl); (case hr => first | (go_simp; done) | (go_simp; rfl)); (case hp => exact (Reps.none _ _)); intro v103 w2 ho3 hb hg_ hnew_; clear hg_ hnew_; (first | rw [← Ny102.out] at ho3 | (simp only [Int.reduceToNat] at ho3; rw [← Ny102.out] at ho3)); have HO104 := A_ (rE_ (Kd.R_newM (M := fun k_ => (w.heap.size ≤ k_)) ho3 (bF_ hB_) (fun k_ h_ => h_)) (bF_ hB_)); replace HB := b1_ hb; clear hb ho3; obtain ⟨Ao4, co4, eo4⟩ := Kd.R_slice HO104.out; subst eo4) | ((with_reducible refine gB_ (N := 10) rfl ?_); refine Kd.N_lit (Kd.slice 3 (Kd.int .i64)) _ 27 ?hg (N' := 10) ?hd (xs := ([y102] : List (List Int))) (inner := [.slice Ao4 y102.length co4]) (ok := (fun k_ => (w.heap.size ≤ k_))) (okp := (fun k_ => (w.heap.size ≤ k_))) ?hr ?hp (fun _ hk => hk) ((show ∀ k_, w2.heap.size ≤ k_ → (fun k_ => (w.heap.size ≤ k_)) k_ from fun k_ hk => (Nat.le_trans (bF_ hB_) hk)) _ (nA_ _)) (Below.refl _ _) (nA_ _) (by simp) ?_; (case hd => rfl); (case hg => rfl); (case hr => first | (go_simp; done) | (go_simp; rfl)); (case hp => exact (Reps.one (show Kd.FK (Kd.slice 3 (Kd.int .i64)) _ _ y102 [.slice Ao4 y102.length co4] from (Kd.FK_slice_mk (Kd.R_reads' (Kd.R_mono (ok' := (fun k_ => (w.heap.size ≤ k_))) (HO104.out) (fun k_ hk => hk.1))).2.1 (Kd.R_F (Kd.R_mono (ok' := (fun k_ => (w.heap.size ≤ k_))) (HO104.out) (fun k_ hk => hk.1))))) (Reps.none _ _))); intro v106 w5 ho6 hb hg_ hnew_; clear hg_ hnew_; (first | rw [← Ny105.out] at ho6 | (simp only [Int.reduceToNat] at ho6; rw [← Ny105.out] at ho6)); have HO107 := A_ (Kd.N_lower ho6 (bF_ hB_)); replace HB := b1_ hb; clear HO104; clear hb ho6))
 go_loopg [3, 4] k (fun kq v3 v4 w' => ∃ (x3_1 : List (List Int)) (x4_1 : Int), v4 = .int .i64 x4_1 ∧ Aside0 (Z56.l0 kq a0 x3_1 x4_1 = some r) ∧ Aside0 (kq ≤ k) ∧ Aside0 (Kd.N (Kd.slice 3 (Kd.int .i64)) 27 w' w.heap.size (fun k_ => (w.heap.size ≤ k_)) v3 x3_1) ∧ Aside0 (Below w.heap.size w w'))
 case atStart => exact ⟨(y105), (0), qc_, H', ⟨nA_ _⟩, ⟨by (with_reducible repeat (first | apply Kd.N_alloc | apply Kd.N_drewN | apply Kd.N_drew)); exact HO107.out⟩, ⟨hB_⟩⟩
 case round =>
  clear H'
  obtain ⟨x3_1, x4_1, rfl, HA, HK1, HO_3, HB⟩ := hrel
  cases gk with
  | zero => exact absurd HA.out (by simp [Z56.l0])
  | succ k1 =>
   have H := HA.out
   clear HA
   simp only [Z56.l0] at H
   by_cases c7 : x4_1 < a0
   ·rw [if_pos c7] at H
    have c7b0 := oC_ c7
    clear c7
    obtain ⟨y108, hy108⟩ : ∃ y_ : List (List Int), y_ = (([] : List (List Int))) := ⟨_, rfl⟩
    replace H : (Z56.l1 k1 a0 x4_1 y108 x3_1 (x3_1.length : Int) 0) = some r := by first | (rw [hy108]; exact H) | exact H
    have Ny108 := A_ hy108
    clear hy108
    have H' := A_ H
    clear H
    go_wp2_with (first | ((with_reducible refine gB_ (N := 16) rfl ?_); refine Kd.N_lit (Kd.slice 3 (Kd.int .i64)) _ 27 ?hg (N' := 16) ?hd (xs := ([] : List (List Int))) (inner := []) (ok := (fun k_ => (w.heap.size ≤ k_) ∧ some k_ ≠ (u3 : Value).ownBlock)) (okp := (fun k_ => (w.heap.size ≤ k_) ∧ some k_ ≠ (u3 : Value).ownBlock)) ?hr ?hp (fun _ hk => hk) ((show ∀ k_, wr.heap.size ≤ k_ → (fun k_ => (w.heap.size ≤ k_) ∧ some k_ ≠ (u3 : Value).ownBlock) k_ from fun k_ hk => ⟨(Nat.le_trans (bF_ hB_) hk), Kd.fresh' (Kd.N_lt (by (with_reducible repeat (first | apply Kd.N_alloc | apply Kd.N_drewN | apply Kd.N_drew)); exact HO_3.out)) k_ hk⟩) _ (nA_ _)) (Below.refl _ _) (nA_ _) (by simp) ?_; (case hd => rfl); (case hg => rfl); (case hr => first | (go_simp; done) | (go_simp; rfl)); (case hp => exact (Reps.none _ _)); intro v109 w8 ho9 hb hg_ hnew_; clear hg_ hnew_; (first | rw [← Ny108.out] at ho9 | (simp only [Int.reduceToNat] at ho9; rw [← Ny108.out] at ho9)); replace HO_3 := A_ (Kd.N_elder' (by (with_reducible repeat (first | apply Kd.N_alloc | apply Kd.N_drewN | apply Kd.N_drew)); exact HO_3.out) (Kd.N_base ho9) hb); have HO110 := A_ (Kd.N_lower ho9 (bF_ hB_)); replace HB := b1_ hb; clear hb ho9; obtain ⟨Ao10, co10, eo10⟩ := Kd.N_slice HO_3.out; subst eo10))
    go_loopg [5, 19] k1 (fun kq v5 v19 w' => ∃ (x5_2 : List (List Int)) (x19_2 : Int), v19 = .int .i64 x19_2 ∧ Aside0 (Z56.l1 kq a0 x4_1 x5_2 x3_1 (x3_1.length : Int) x19_2 = some r) ∧ Aside0 (kq ≤ k1) ∧ Aside0 (Kd.N (Kd.slice 3 (Kd.int .i64)) 27 w' w.heap.size (fun k_ => (w.heap.size ≤ k_) ∧ some k_ ≠ ((.slice Ao10 x3_1.length co10) : Value).ownBlock) v5 x5_2) ∧ Aside0 (Kd.N (Kd.slice 3 (Kd.int .i64)) 27 w' w.heap.size (fun k_ => (w.heap.size ≤ k_) ∧ some k_ ≠ (v5 : Value).ownBlock) (.slice Ao10 x3_1.length co10) x3_1) ∧ Aside0 (Below w.heap.size w w'))
    case atStart => exact ⟨(y108), (0), qc_, H', ⟨nA_ _⟩, ⟨by (with_reducible repeat (first | apply Kd.N_alloc | apply Kd.N_drewN | apply Kd.N_drew)); exact HO110.out⟩, ⟨by (with_reducible repeat (first | apply Kd.N_alloc | apply Kd.N_drewN | apply Kd.N_drew)); exact HO_3.out⟩, ⟨hB_⟩⟩
    case round =>
     clear H'
     obtain ⟨x5_2, x19_2, rfl, HA, HK2, HO_5, HO_17, HB⟩ := hrel
     cases gk with
     | zero => exact absurd HA.out (by simp [Z56.l1])
     | succ k2 =>
      have H := HA.out
      clear HA
      simp only [Z56.l1] at H
      by_cases c11 : x19_2 < (x3_1.length : Int)
      ·rw [if_pos c11] at H
       have c11b0 := oC_ c11
       clear c11
       have c12 := cp_ H
       replace H := ca_ H
       have c12b0 := oC_ c12
       clear c12
       have c13 := cp_ H
       replace H := ca_ H
       have c13b0 := oC_ c13
       clear c13
       have H' := A_ H
       clear H
       have p111 : 0 ≤ (x19_2 : Int) := oB_ qe_
       have q111 : x19_2 < (x3_1.length : Int) := oB_ qe_
       obtain ⟨ad111, A111_0, c111_0, e111, hx111_0, hl111_0, hi111_0⟩ := at_L1 (Kd.N_reads' HO_17.out).2.2 x19_2 p111 q111
       cases e111
       obtain ⟨ce111, hce111, hMe111, hcc111⟩ := Kd.N_get HO_17.out [] x19_2 p111 (by first | exact q111 | exact oB_ qe_ | (have e_ := (Kd.N_reads' HO_17.out).1; omega))
       obtain ⟨ua111_0, uc111_0, rfl, ul111_0, ge111_0⟩ := Kd.FK_slice_open hMe111
       have hv111_0 := hcc111 0 _ rfl
       rw [Nat.add_zero, show ((Kd.slice 3 (Kd.int .i64))).sz = 1 from rfl, Nat.mul_one] at hv111_0
       replace hv111_0 := Option.some.inj (hv111_0.symm.trans hx111_0)
       injection hv111_0 with hva_ hvn_ hvc_
       rw [hva_] at ge111_0
       rw [hvc_] at ul111_0
       have HL111_0 := A_ (show Kd.V (Kd.int .i64) 3 _ w.heap.size _ _ (rd_L1 x3_1 x19_2) from Kd.V_mk ul111_0 ge111_0)
       clear hva_ hvn_ hvc_ ge111_0 ul111_0
       clear hcc111 hce111
       have HR111_0 := A_ hi111_0
       have HC111_0 := A_ hl111_0
       clear hi111_0 hl111_0
       replace p111 := eq_true p111
       replace q111 := eq_true q111
       go_wp2
       go_loopg [5, 8] k2 (fun kq v5 v8 w' => ∃ (x5_3 : List (List Int)) (x8_3 : Int), v8 = .int .i64 x8_3 ∧ Aside0 (Z56.l2 kq a0 x4_1 x5_3 (rd_L1 x3_1 x19_2) x8_3 x3_1 (x3_1.length : Int) x19_2 = some r) ∧ Aside0 (kq ≤ k2) ∧ Aside0 (Kd.N (Kd.slice 3 (Kd.int .i64)) 27 w' w.heap.size (fun k_ => (w.heap.size ≤ k_) ∧ some k_ ≠ ((.slice (some ad111) x3_1.length co10) : Value).ownBlock) v5 x5_3) ∧ Aside0 (Kd.V (Kd.int .i64) 3 w' w.heap.size (fun k_ => (w.heap.size ≤ k_) ∧ some k_ ≠ (v5 : Value).ownBlock ∧ some k_ ≠ ((.slice (some ad111) x3_1.length co10) : Value).ownBlock) (.slice A111_0 (rd_L1 x3_1 x19_2).length c111_0) (rd_L1 x3_1 x19_2)) ∧ Aside0 (Kd.N (Kd.slice 3 (Kd.int .i64)) 27 w' w.heap.size (fun k_ => (w.heap.size ≤ k_) ∧ some k_ ≠ (v5 : Value).ownBlock) (.slice (some ad111) x3_1.length co10) x3_1) ∧ Aside0 (Below w.heap.size w w'))
       case atStart => exact ⟨(x5_2), (0), qc_, H', ⟨nA_ _⟩, ⟨by (with_reducible repeat (first | apply Kd.N_alloc | apply Kd.N_drewN | apply Kd.N_drew)); exact HO_5.out⟩, ⟨by (with_reducible repeat (first | apply Kd.V_alloc | apply Kd.V_drewN | apply Kd.V_drew)); exact Kd.V_mono HL111_0.out (fun _ hk => ⟨hk.1.1, ⟨hk.1.2, hk.2⟩⟩)⟩, ⟨by (with_reducible repeat (first | apply Kd.N_alloc | apply Kd.N_drewN | apply Kd.N_drew)); exact HO_17.out⟩, ⟨hB_⟩⟩
       case round =>
        clear H'
        obtain ⟨x5_3, x8_3, rfl, HA, HK3, HO_5, HO_7, HO_17, HB⟩ := hrel
        cases gk with
        | zero => exact absurd HA.out (by simp [Z56.l2])
        | succ k3 =>
         have H := HA.out
         clear HA
         simp only [Z56.l2] at H
         by_cases c14 : x8_3 < a0
         ·rw [if_pos c14] at H
          have c14b0 := oC_ c14
          clear c14
          obtain ⟨t112, A15, H⟩ := bi_ H
          by_cases c16 : t112 = true
          ·subst c16
           rw [if_pos rfl] at H
           have H' := A_ H
           clear H
           go_wp2_with (first | ((with_reducible refine gA_ (f := 45) rfl ?_); refine gL_ (some 30) Tryz.func45 #[.slice A111_0 (rd_L1 x3_1 x19_2).length c111_0, .int .i64 x8_3] rfl qa_ ?_; (with_reducible refine (Z65.calls k3 _ _ (rd_L1 x3_1 x19_2) x8_3 true _ (cw_ ((Kd.V_reads' HO_7.out).2.2)) ((Kd.V_reads' HO_7.out).2.1) A15.out).mono ?_); rintro e w' ⟨rfl, ⟨nd, rfl⟩⟩; refine ⟨_, rfl, ?_⟩))
           go_roundg k3
           case measure => have := HK1.out; have := HK2.out; have := HK3.out; omega
           case rel => exact ⟨(x5_3), (wrap64 (x8_3 + 1)), qc_, H', ⟨by have := HK1.out; have := HK2.out; have := HK3.out; omega⟩, ⟨by (with_reducible repeat (first | apply Kd.N_alloc | apply Kd.N_drewN | apply Kd.N_drew)); exact HO_5.out⟩, ⟨by (with_reducible repeat (first | apply Kd.V_alloc | apply Kd.V_drewN | apply Kd.V_drew)); exact HO_7.out⟩, ⟨by (with_reducible repeat (first | apply Kd.N_alloc | apply Kd.N_drewN | apply Kd.N_drew)); exact HO_17.out⟩, ⟨hB_⟩⟩
          ·replace c16 := Bool.eq_false_iff.mpr c16
           subst c16
           have H1 : ((some (([] : List Int) : List Int)).bind fun y113 => (if y113.length + (rd_L1 x3_1 x19_2).length < 17592186044416 then ((some (y113 ++ (rd_L1 x3_1 x19_2) : List Int)).bind fun y116 => (if y116.length < 17592186044416 then (if x5_3.length < 5864062014805 then (Z56.l2 k3 a0 x4_1 (x5_3 ++ [(y116 ++ [x8_3])]) (rd_L1 x3_1 x19_2) (wrap64 (x8_3 + 1)) x3_1 (x3_1.length : Int) x19_2) else (none)) else (none))) else (none))) = some r := by rw [if_neg (show ¬ (false = true) by decide)] at H; exact H
           clear H
           have H := H1
           clear H1
           obtain ⟨y113, hy113⟩ : ∃ y_ : List Int, y_ = (([] : List Int)) := ⟨_, rfl⟩
           replace H : (if y113.length + (rd_L1 x3_1 x19_2).length < 17592186044416 then ((some (y113 ++ (rd_L1 x3_1 x19_2) : List Int)).bind fun y116 => (if y116.length < 17592186044416 then (if x5_3.length < 5864062014805 then (Z56.l2 k3 a0 x4_1 (x5_3 ++ [(y116 ++ [x8_3])]) (rd_L1 x3_1 x19_2) (wrap64 (x8_3 + 1)) x3_1 (x3_1.length : Int) x19_2) else (none)) else (none))) else (none)) = some r := by first | (rw [hy113]; exact H) | exact H
           have Ny113 := A_ hy113
           clear hy113
           have c17 := cp_ H
           replace H := ca_ H
           have LMc17 := A_ c17
           clear c17
           obtain ⟨y116, hy116⟩ : ∃ y_ : List Int, y_ = (y113 ++ (rd_L1 x3_1 x19_2)) := ⟨_, rfl⟩
           replace H : (if y116.length < 17592186044416 then (if x5_3.length < 5864062014805 then (Z56.l2 k3 a0 x4_1 (x5_3 ++ [(y116 ++ [x8_3])]) (rd_L1 x3_1 x19_2) (wrap64 (x8_3 + 1)) x3_1 (x3_1.length : Int) x19_2) else (none)) else (none)) = some r := by first | (rw [hy116]; exact H) | exact H
           have Ny116 := A_ hy116
           clear hy116
           have c18 := cp_ H
           replace H := ca_ H
           have LMc18 := A_ c18
           clear c18
           obtain ⟨y119, hy119⟩ : ∃ y_ : List Int, y_ = (y116 ++ [x8_3]) := ⟨_, rfl⟩
           replace H : (if x5_3.length < 5864062014805 then (Z56.l2 k3 a0 x4_1 (x5_3 ++ [y119]) (rd_L1 x3_1 x19_2) (wrap64 (x8_3 + 1)) x3_1 (x3_1.length : Int) x19_2) else (none)) = some r := by first | (rw [hy119]; exact H) | exact H
           have Ny119 := A_ hy119
           clear hy119
           have c19 := cp_ H
           replace H := ca_ H
           have LMc19 := A_ c19
           clear c19
           obtain ⟨y122, hy122⟩ : ∃ y_ : List (List Int), y_ = (x5_3 ++ [y119]) := ⟨_, rfl⟩
           replace H : (Z56.l2 k3 a0 x4_1 y122 (rd_L1 x3_1 x19_2) (wrap64 (x8_3 + 1)) x3_1 (x3_1.length : Int) x19_2) = some r := by first | (rw [hy122]; exact H) | exact H
           have Ny122 := A_ hy122
           clear hy122
           have H' := A_ H
           clear H
           go_wp2_with (first | ((with_reducible refine gA_ (f := 45) rfl ?_); refine gL_ (some 30) Tryz.func45 #[.slice A111_0 (rd_L1 x3_1 x19_2).length c111_0, .int .i64 x8_3] rfl qa_ ?_; (with_reducible refine (Z65.calls k3 _ _ (rd_L1 x3_1 x19_2) x8_3 false _ (cw_ ((Kd.V_reads' HO_7.out).2.2)) ((Kd.V_reads' HO_7.out).2.1) A15.out).mono ?_); rintro e w' ⟨rfl, ⟨nd, rfl⟩⟩; refine ⟨_, rfl, ?_⟩) | ((with_reducible refine gB_ (N := 33) rfl ?_); refine Kd.R_lit (Kd.int .i64) _ 3 ?hg (N := 33) ?hd (xs := ([] : List Int)) (inner := []) (ok := fun _ => True) (okp := fun _ => True) ?hr ?hp (fun _ hk => hk) trivial (Below.refl _ _) (nA_ _) (by simp) ?_; (case hd => rfl); (case hg => rfl); (case hr => first | (go_simp; done) | (go_simp; rfl)); (case hp => exact (Reps.none _ _)); intro v114 w20 ho21 hb hg_ hnew_; clear hg_ hnew_; (first | rw [← Ny113.out] at ho21 | (simp only [Int.reduceToNat] at ho21; rw [← Ny113.out] at ho21)); replace HO_5 := A_ (Kd.N_elder' (by (with_reducible repeat (first | apply Kd.N_alloc | apply Kd.N_drewN | apply Kd.N_drew)); exact HO_5.out) (Kd.R_base ho21) hb); replace HO_7 := A_ (Kd.V_elder' (by (with_reducible repeat (first | apply Kd.V_alloc | apply Kd.V_drewN | apply Kd.V_drew)); exact HO_7.out) (Kd.R_base ho21) hb); replace HO_17 := A_ (Kd.N_elder' (by (with_reducible repeat (first | apply Kd.N_alloc | apply Kd.N_drewN | apply Kd.N_drew)); exact HO_17.out) (Kd.R_base ho21) hb); have HO115 := A_ (rE_ (Kd.R_newM (M := fun k_ => (w.heap.size ≤ k_)) ho21 (bF_ hB_) (fun k_ h_ => h_)) (bF_ hB_)); replace HB := b1_ hb; clear hb ho21) | ((with_reducible refine gate_builtin (b := .append) (xs := #[.tmp 33, .tmp 34]) rfl ?_); at_builtin; refine Kd.R_append_rows (Kd.int .i64) (w0 := w) w.heap.size rfl (.tmp 33) (.tmp 34) 27 3 (.int .i64 0) 8 rfl Tryz.underlying27 info3 rfl (by decide) (by omega) v114 y113 (rd_L1 x3_1 x19_2) _ _ _ (fun k_ => (w.heap.size ≤ k_)) (fun _ => False) rfl rfl ?aO ?aR (fun _ _ h => h) (fun _ h => h.elim) ?aF ?aB ?aS ?aL ?_; (case aR => exact cw_ ((Kd.V_reads' HO_7.out).2.2)); (case aB => exact hB_); (case aF => exact (fun k_ hk => (Nat.le_trans (bF_ hB_) hk))); (case aO => exact (rw_ (Kd.R_mono HO115.out (fun _ hk => hk.1)))); (case aS => exact (bF_ hB_)); (case aL => have := LMc17.out; omega); intro v117 w22 ho hb hg hat; rw [← Ny116.out] at ho; replace HO_5 := A_ (Kd.N_afterv (ok := (fun k_ => (w.heap.size ≤ k_) ∧ some k_ ≠ (.slice (some ad111) x3_1.length co10 : Value).ownBlock)) (by (with_reducible repeat (first | apply Kd.N_alloc | apply Kd.N_drewN | apply Kd.N_drew)); exact HO_5.out) hg hat); replace HO_7 := A_ (Kd.V_afterv (ok := (fun k_ => (w.heap.size ≤ k_) ∧ some k_ ≠ (u5 : Value).ownBlock ∧ some k_ ≠ (.slice (some ad111) x3_1.length co10 : Value).ownBlock)) (by (with_reducible repeat (first | apply Kd.V_alloc | apply Kd.V_drewN | apply Kd.V_drew)); exact HO_7.out) hg hat); replace HO_17 := A_ (Kd.N_afterv (ok := (fun k_ => (w.heap.size ≤ k_) ∧ some k_ ≠ (u5 : Value).ownBlock)) (by (with_reducible repeat (first | apply Kd.N_alloc | apply Kd.N_drewN | apply Kd.N_drew)); exact HO_17.out) hg hat); replace HB := A_ hb; have HO118 := A_ ho; clear HO115; clear ho hb hg hat) | ((with_reducible refine gate_builtin (b := .append) (xs := #[.tmp 35, .tmp 37]) rfl ?_); at_builtin; refine Kd.R_append (Kd.int .i64) (w0 := w) w.heap.size rfl (.tmp 35) (.tmp 37) 27 3 (.int .i64 0) 8 rfl Tryz.underlying27 info3 rfl (by decide) (by omega) v117 y116 x8_3 [.int .i64 x8_3] (fun k_ => (w.heap.size ≤ k_)) (fun _ => False) rfl rfl ?aP (fun _ hk => hk.elim) ?aF ?aO ?aB ?aS ?aL ?_; (case aP => exact rfl); (case aB => exact hB_); (case aF => exact (fun k_ hk => (Nat.le_trans (bF_ hB_) hk))); (case aO => exact (rr_ HO118)); (case aS => exact (bF_ hB_)); (case aL => have := LMc18.out; omega); intro v120 w23 ho hb hg hat; rw [← Ny119.out] at ho; replace HO_5 := A_ (Kd.N_afterv (ok := (fun k_ => (w.heap.size ≤ k_) ∧ some k_ ≠ (.slice (some ad111) x3_1.length co10 : Value).ownBlock)) (by (with_reducible repeat (first | apply Kd.N_alloc | apply Kd.N_drewN | apply Kd.N_drew)); exact HO_5.out) hg hat); replace HO_7 := A_ (Kd.V_afterv (ok := (fun k_ => (w.heap.size ≤ k_) ∧ some k_ ≠ (u5 : Value).ownBlock ∧ some k_ ≠ (.slice (some ad111) x3_1.length co10 : Value).ownBlock)) (by (with_reducible repeat (first | apply Kd.V_alloc | apply Kd.V_drewN | apply Kd.V_drew)); exact HO_7.out) hg hat); replace HO_17 := A_ (Kd.N_afterv (ok := (fun k_ => (w.heap.size ≤ k_) ∧ some k_ ≠ (u5 : Value).ownBlock)) (by (with_reducible repeat (first | apply Kd.N_alloc | apply Kd.N_drewN | apply Kd.N_drew)); exact HO_17.out) hg hat); replace HB := A_ hb; have HO121 := A_ ho; clear HO118; clear ho hb hg hat; obtain ⟨Ao25, co25, eo25⟩ := Kd.R_slice HO121.out; subst eo25) | ((with_reducible refine gate_builtin (b := .append) (xs := #[.tmp 32, .tmp 39]) rfl ?_); at_builtin; refine Kd.N_append (Kd.slice 3 (Kd.int .i64)) (w0 := w) w.heap.size rfl (.tmp 32) (.tmp 39) 22 27 (.slice none 0 0) 24 rfl Tryz.underlying22 info27 rfl (by decide) (by omega) u5 x5_3 y119 [.slice Ao25 y119.length co25] (fun k_ => (w.heap.size ≤ k_) ∧ some k_ ≠ (.slice (some ad111) x3_1.length co10 : Value).ownBlock) (fun k_ => ((fun k_ => (w.heap.size ≤ k_) ∧ some k_ ≠ (.slice (some ad111) x3_1.length co10 : Value).ownBlock)) k_ ∧ some k_ ≠ (u5 : Value).ownBlock) rfl rfl ?aP (fun _ hk => hk) ?aF ?aO ?aB ?aS ?aL ?_; (case aP => exact (Kd.FK_slice_mk (Kd.R_reads' (Kd.R_mono (ok' := (fun k_ => ((fun k_ => (w.heap.size ≤ k_) ∧ some k_ ≠ (.slice (some ad111) x3_1.length co10 : Value).ownBlock)) k_ ∧ some k_ ≠ (u5 : Value).ownBlock)) (Kd.R_apart' (Kd.R_apart' (HO121.out) (Kd.N_typed HO_17.out) (by decide)) (Kd.N_typed HO_5.out) (by decide)) (fun k_ hk => ⟨⟨hk.1.1, hk.1.2⟩, hk.2⟩))).2.1 (Kd.R_F (Kd.R_mono (ok' := (fun k_ => ((fun k_ => (w.heap.size ≤ k_) ∧ some k_ ≠ (.slice (some ad111) x3_1.length co10 : Value).ownBlock)) k_ ∧ some k_ ≠ (u5 : Value).ownBlock)) (Kd.R_apart' (Kd.R_apart' (HO121.out) (Kd.N_typed HO_17.out) (by decide)) (Kd.N_typed HO_5.out) (by decide)) (fun k_ hk => ⟨⟨hk.1.1, hk.1.2⟩, hk.2⟩))))); (case aB => exact hB_); (case aF => exact (fun k_ hk => ⟨(Nat.le_trans (bF_ hB_) hk), Kd.fresh' (Kd.N_lt (by (with_reducible repeat (first | apply Kd.N_alloc | apply Kd.N_drewN | apply Kd.N_drew)); exact HO_17.out)) k_ hk⟩)); (case aO => exact (by (with_reducible repeat (first | apply Kd.N_alloc | apply Kd.N_drewN | apply Kd.N_drew)); exact Kd.N_mono HO_5.out (fun _ hk => ⟨hk.1.1, hk.1.2⟩))); (case aS => exact (bF_ hB_)); (case aL => have := LMc19.out; omega); intro v123 w24 ho hb hg hat; rw [← Ny122.out] at ho; replace HO_7 := A_ (Kd.V_afterv (ok := (fun k_ => (w.heap.size ≤ k_) ∧ some k_ ≠ (.slice (some ad111) x3_1.length co10 : Value).ownBlock ∧ some k_ ≠ (.slice Ao25 y119.length co25 : Value).ownBlock)) (by (with_reducible repeat (first | apply Kd.V_alloc | apply Kd.V_drewN | apply Kd.V_drew)); exact Kd.V_mono HO_7.out (fun _ hk => ⟨⟨hk.1.1, ⟨hk.1.2.2, hk.2⟩⟩, hk.1.2.1⟩)) hg hat); replace HO_17 := A_ (Kd.N_afterv (ok := (fun k_ => (w.heap.size ≤ k_) ∧ some k_ ≠ (.slice Ao25 y119.length co25 : Value).ownBlock)) (by (with_reducible repeat (first | apply Kd.N_alloc | apply Kd.N_drewN | apply Kd.N_drew)); exact Kd.N_mono HO_17.out (fun _ hk => ⟨⟨hk.1.1, hk.2⟩, hk.1.2⟩)) hg hat); replace HB := A_ hb; have HO124 := A_ ho; clear HO_5 HO121; clear ho hb hg hat))
           go_roundg k3
           case measure => have := HK1.out; have := HK2.out; have := HK3.out; omega
           case rel => exact ⟨(y122), (wrap64 (x8_3 + 1)), qc_, H', ⟨by have := HK1.out; have := HK2.out; have := HK3.out; omega⟩, ⟨by (with_reducible repeat (first | apply Kd.N_alloc | apply Kd.N_drewN | apply Kd.N_drew)); exact HO124.out⟩, ⟨by (with_reducible repeat (first | apply Kd.V_alloc | apply Kd.V_drewN | apply Kd.V_drew)); exact Kd.V_mono HO_7.out (fun _ hk => ⟨hk.1.1, ⟨hk.2, hk.1.2.1⟩⟩)⟩, ⟨by (with_reducible repeat (first | apply Kd.N_alloc | apply Kd.N_drewN | apply Kd.N_drew)); exact Kd.N_mono HO_17.out (fun _ hk => ⟨hk.1.1, hk.2⟩)⟩, ⟨hB_⟩⟩
         ·rw [if_neg c14] at H
          have c14b0 := oD_ c14
          clear c14
          have H' := A_ H
          clear H
          go_wp2
          go_roundg k3
          case measure => have := HK1.out; have := HK2.out; have := HK3.out; omega
          case rel => exact ⟨(x5_3), (wrap64 (x19_2 + 1)), qc_, H', ⟨by have := HK1.out; have := HK2.out; have := HK3.out; omega⟩, ⟨by (with_reducible repeat (first | apply Kd.N_alloc | apply Kd.N_drewN | apply Kd.N_drew)); exact HO_5.out⟩, ⟨by (with_reducible repeat (first | apply Kd.N_alloc | apply Kd.N_drewN | apply Kd.N_drew)); exact HO_17.out⟩, ⟨hB_⟩⟩
      ·rw [if_neg c11] at H
       have c11b0 := oD_ c11
       clear c11
       have H' := A_ H
       clear H
       go_wp2
       go_roundg k2
       case measure => have := HK1.out; have := HK2.out; omega
       case rel => exact ⟨(x5_2), (wrap64 (x4_1 + 1)), qc_, H', ⟨by have := HK1.out; have := HK2.out; omega⟩, ⟨by (with_reducible repeat (first | apply Kd.N_alloc | apply Kd.N_drewN | apply Kd.N_drew)); exact Kd.N_mono HO_5.out (fun _ hk => hk.1)⟩, ⟨hB_⟩⟩
   ·rw [if_neg c7] at H
    have c7b0 := oD_ c7
    clear c7
    obtain rfl := Option.some.inj H
    go_wp2
    go_ret
    exact ⟨_, qb_, by (with_reducible repeat (first | apply Kd.N_alloc | apply Kd.N_drewN | apply Kd.N_drew)); exact HO_3.out, hB_⟩
end Go.Proofs.YtoijcallajegfaaGreat.A
end
section
namespace Go.Proofs.YtoijcallajegfaaGreat.A
open Go.RowKit Go.Proofs.YtoijcallajegfaaGreatW.PrintWords Go.Proofs.YtoijcallajegfaaGreatW.PrintLast Go.Proofs.YtoijcallajegfaaGreatW.PrintMore
attribute [local go_sem] max2_int min2_int max_two min_two max_three min_three max_four min_four
set_option linter.unusedVariables false
set_option linter.unusedSimpArgs false
def Z64.l0 : Nat → List Int → List Int → Int → Int → Option (Bool)
 | 0, _, _, _, _ => none
 | k + 1, x0, x8, x9, x10 => if x10 < x9 then (if 0 ≤ x10 then (if x10 < (x8.length : Int) then ((Z66.f (rd x8 x10) 0 (wrap64 ((x0.length : Int) - 1))).bind fun t126 => (if t126 = true then (if x10 ≤ (x0.length : Int) then ((Z65.f k (x0.take (x10 : Int).toNat) (rd x8 x10)).bind fun t128 => (if t128 = true then (some false) else (Z64.l0 k x0 x8 x9 (wrap64 (x10 + 1))))) else (none)) else (some false))) else (none)) else (none)) else (some true)
def Z64.f (k : Nat) (l0 : List Int) : Option (Bool) := if (l0.length : Int) > 24 then (some false) else (Z64.l0 k l0 l0 (l0.length : Int) 0)
theorem Z64.mono_l : ∀ k, (∀ y0 y1 y2 y3, LeO (Z64.l0 k y0 y1 y2 y3) (Z64.l0 (k + 1) y0 y1 y2 y3))
 | 0 => fun _ _ _ _ r h => by simp [Z64.l0] at h
 | k + 1 => by
  have ih0 := Z64.mono_l k
  ·intro y0 y1 y2 y3
   unfold Z64.l0
   repeat' first
   | (with_reducible exact ih0 _ _ _ _)
   | (with_reducible exact Z65.mono _ _ _)
   | (with_reducible exact LeO.refl _)
   | (with_reducible exact LeO.none _)
   | (with_reducible refine LeO.ite ?_ ?_)
   | (with_reducible refine LeO.bind ?_ (fun _ => ?_))
   | exact ih0 _ _ _ _
   | exact Z65.mono _ _ _
   | exact LeO.none _
   | refine LeO.ite ?_ ?_
   | refine LeO.bind ?_ (fun _ => ?_)
theorem Z64.mono : ∀ a0 k, LeO (Z64.f k a0) (Z64.f (k + 1) a0) := by
 intro a0 k
 have ih0 := Z64.mono_l k
 unfold Z64.f
 repeat' first
   | (with_reducible exact ih0 _ _ _ _)
   | (with_reducible exact Z65.mono _ _ _)
   | (with_reducible exact LeO.refl _)
   | (with_reducible exact LeO.none _)
   | (with_reducible refine LeO.ite ?_ ?_)
   | (with_reducible refine LeO.bind ?_ (fun _ => ?_))
   | exact ih0 _ _ _ _
   | exact Z65.mono _ _ _
   | exact LeO.none _
   | refine LeO.ite ?_ ?_
   | refine LeO.bind ?_ (fun _ => ?_)
set_option maxHeartbeats 8000000 in
set_option maxRecDepth 100000 in
theorem Z64.calls (k : Nat) (A0 : Option Addr) (c0 : Nat) (l0 : List Int) (r : Bool) (w : World) (hr0 : Kd.C (Kd.int .i64) w A0 l0.length l0) (hc0 : l0.length ≤ c0) (h : Z64.f k l0 = some r) :
  Calls Tryz.prog 75 #[.slice A0 l0.length c0] w fun e w' => e = .returned (.bool r) ∧ Drawn0 w w' := by
 have HR0 := A_ hr0
 have HC0 := A_ hc0
 clear hr0 hc0
 have H : (if (l0.length : Int) > 24 then (some false) else (Z64.l0 k l0 l0 (l0.length : Int) 0)) = some r := h
 clear h
 by_cases c2 : (l0.length : Int) > 24
 ·rw [if_pos c2] at H
  have c2b0 : decide (24 < (l0.length : Int)) = true := oC_ c2
  have c2b1 : decide (24 < l0.length) = true := oC_ (by omega)
  clear c2
  obtain rfl := Option.some.inj H
  go_enter Tryz.func75, Tryz.ntmps75
  go_wp2
  go_ret
  exact ⟨by first | rfl | (simp; done) | (simp [*]; done), by repeat (first | exact Drawn0.refl _ | apply Drawn0.step)⟩
 ·rw [if_neg c2] at H
  have c2b0 : decide (24 < (l0.length : Int)) = false := oD_ c2
  have c2b1 : decide (24 < l0.length) = false := oD_ (by omega)
  clear c2
  have H' := A_ H
  clear H
  go_enter Tryz.func75, Tryz.ntmps75
  go_wp2
  go_loopg [10] k (fun kq v10 w' => ∃ (x10_1 : Int), v10 = .int .i64 x10_1 ∧ Aside0 (Z64.l0 kq l0 l0 (l0.length : Int) x10_1 = some r) ∧ Aside0 (kq ≤ k) ∧ Drawn0 w w')
  case atStart => exact ⟨(0), (by first | rfl | (simp; done) | (simp [*]; done)), H', ⟨nA_ _⟩, by repeat (first | exact Drawn0.refl _ | apply Drawn0.step)⟩
  case round =>
   clear H'
   (try clear c2); (try clear c2b0); (try clear c2b1); (try clear p2)
   obtain ⟨x10_1, rfl, HA, HK1, ⟨m1, rfl⟩⟩ := hrel
   cases gk with
   | zero => exact absurd HA.out (by simp [Z64.l0])
   | succ k1 =>
    have H := HA.out
    clear HA
    simp only [Z64.l0] at H
    by_cases c3 : x10_1 < (l0.length : Int)
    ·rw [if_pos c3] at H
     have c3b0 : decide (x10_1 < (l0.length : Int)) = true := oC_ c3
     clear c3
     by_cases c4 : 0 ≤ x10_1
     ·rw [if_pos c4] at H
      have c4b0 : decide (0 ≤ x10_1) = true := oC_ c4
      clear c4
      by_cases c5 : x10_1 < (l0.length : Int)
      ·rw [if_pos c5] at H
       have c5b0 : decide (x10_1 < (l0.length : Int)) = true := oC_ c5
       clear c5
       replace H := Option.bind_eq_some_iff.mp H
       obtain ⟨t126, A60, H⟩ := H
       replace H : (if t126 = true then (if x10_1 ≤ (l0.length : Int) then ((Z65.f k1 (l0.take (x10_1 : Int).toNat) (rd l0 x10_1)).bind fun t128 => (if t128 = true then (some false) else (Z64.l0 k1 l0 l0 (l0.length : Int) (wrap64 (x10_1 + 1))))) else (none)) else (some false)) = some r := H
       have A6 := A_ A60
       clear A60
       by_cases c7 : t126 = true
       ·subst c7
        have H1 : (if x10_1 ≤ (l0.length : Int) then ((Z65.f k1 (l0.take (x10_1 : Int).toNat) (rd l0 x10_1)).bind fun t128 => (if t128 = true then (some false) else (Z64.l0 k1 l0 l0 (l0.length : Int) (wrap64 (x10_1 + 1))))) else (none)) = some r := by rw [if_pos rfl] at H; exact H
        clear H
        have H := H1
        clear H1
        have c8b0 := eq_true (oB_ (by first | (with_reducible assumption) | assumption) : 0 ≤ x10_1)
        by_cases c9 : x10_1 ≤ (l0.length : Int)
        ·rw [if_pos c9] at H
         have c9b0 := eq_true c9
         have c9b1 : decide (x10_1 ≤ (l0.length : Int)) = true := oC_ c9
         clear c9
         replace H := Option.bind_eq_some_iff.mp H
         obtain ⟨t128, A100, H⟩ := H
         replace H : (if t128 = true then (some false) else (Z64.l0 k1 l0 l0 (l0.length : Int) (wrap64 (x10_1 + 1)))) = some r := H
         have A10 := A_ A100
         clear A100
         by_cases c11 : t128 = true
         ·subst c11
          have H1 : (some false) = some r := by rw [if_pos rfl] at H; exact H
          clear H
          have H := H1
          clear H1
          obtain rfl := Option.some.inj H
          have p125 : 0 ≤ (x10_1 : Int) := oB_ (by first | (with_reducible assumption) | assumption)
          have q125 : x10_1 < (l0.length : Int) := oB_ (by first | (with_reducible assumption) | assumption)
          obtain ⟨ad125, e125, hx125_0⟩ := Kd.at_int HR0.out x10_1 p125 q125
          cases e125
          replace p125 := eq_true p125
          replace q125 := eq_true q125
          have HL_ := A_ (show (x10_1 : Int).toNat = (l0.take (x10_1 : Int).toNat).length by rw [lB_]; have := of_eq_true q125; omega)
          go_wp2_with (first | ((with_reducible refine gA_ (f := 31) rfl ?_); refine goesL_ (some 19) rfl rfl Tryz.func31 (by kernel_rfl) rfl #[.int .i64 (rd l0 x10_1), .int .i64 0, .int .i64 (wrap64 ((l0.length : Int) - 1))] rfl (by (try simp only [mA_, mB_, mC_]); first | done | rfl | (simp only [lA_, lB_]; rfl)) ?_; (with_reducible refine (Z66.calls (rd l0 x10_1) 0 (wrap64 ((l0.length : Int) - 1)) true _ A6.out).mono ?_); rintro e w' ⟨rfl, ⟨nd, rfl⟩⟩; refine ⟨_, rfl, ?_⟩; obtain ⟨i012, hi012, _, hsz12, _⟩ := info_parts info3; obtain ⟨hcut12, hA12, hC12⟩ := print_take_of (P := Tryz.prog) (Value.int .i64) 0 27 3 .i64 Tryz.underlying27 hi012 hsz12 (some ad125) c0 l0 x10_1 (oB_ (by first | (with_reducible assumption) | assumption)) (oB_ (by first | (with_reducible assumption) | assumption)) HC0.out; have HR127 := A_ (Kd.C_of_reads (h1 := fun _ => rfl) (hA12 _ (Kd.reads_of_C HR0.out))); have HC127 := A_ hC12; clear hA12 hC12 hi012 hsz12) | (go_at_call 45; refine calls_of_args (congrArg (fun n_ => #[Value.slice _ n_ _, _]) HL_.out) ?_; (with_reducible refine (Z65.calls k1 _ _ (l0.take (x10_1 : Int).toNat) (rd l0 x10_1) true _ ?side1 ?side2 A10.out).mono ?_); (case side1 => repeat (first | exact HR127.out | (with_reducible first | refine cA_ ?_ _ | refine cB_ ?_ _ | refine cC_ ?_))); (case side2 => exact HC127.out); rintro e w' ⟨rfl, ⟨nd, rfl⟩⟩))
          go_ret
          exact ⟨by first | rfl | (simp; done) | (simp [*]; done), by repeat (first | exact Drawn0.refl _ | apply Drawn0.step)⟩
         ·replace c11 := Bool.eq_false_iff.mpr c11
          subst c11
          have H1 : (Z64.l0 k1 l0 l0 (l0.length : Int) (wrap64 (x10_1 + 1))) = some r := by rw [if_neg (show ¬ (false = true) by decide)] at H; exact H
          clear H
          have H := H1
          clear H1
          have H' := A_ H
          clear H
          have p125 : 0 ≤ (x10_1 : Int) := oB_ (by first | (with_reducible assumption) | assumption)
          have q125 : x10_1 < (l0.length : Int) := oB_ (by first | (with_reducible assumption) | assumption)
          obtain ⟨ad125, e125, hx125_0⟩ := Kd.at_int HR0.out x10_1 p125 q125
          cases e125
          replace p125 := eq_true p125
          replace q125 := eq_true q125
          have HL_ := A_ (show (x10_1 : Int).toNat = (l0.take (x10_1 : Int).toNat).length by rw [lB_]; have := of_eq_true q125; omega)
          go_wp2_with (first | ((with_reducible refine gA_ (f := 31) rfl ?_); refine goesL_ (some 19) rfl rfl Tryz.func31 (by kernel_rfl) rfl #[.int .i64 (rd l0 x10_1), .int .i64 0, .int .i64 (wrap64 ((l0.length : Int) - 1))] rfl (by (try simp only [mA_, mB_, mC_]); first | done | rfl | (simp only [lA_, lB_]; rfl)) ?_; (with_reducible refine (Z66.calls (rd l0 x10_1) 0 (wrap64 ((l0.length : Int) - 1)) true _ A6.out).mono ?_); rintro e w' ⟨rfl, ⟨nd, rfl⟩⟩; refine ⟨_, rfl, ?_⟩; obtain ⟨i013, hi013, _, hsz13, _⟩ := info_parts info3; obtain ⟨hcut13, hA13, hC13⟩ := print_take_of (P := Tryz.prog) (Value.int .i64) 0 27 3 .i64 Tryz.underlying27 hi013 hsz13 (some ad125) c0 l0 x10_1 (oB_ (by first | (with_reducible assumption) | assumption)) (oB_ (by first | (with_reducible assumption) | assumption)) HC0.out; have HR127 := A_ (Kd.C_of_reads (h1 := fun _ => rfl) (hA13 _ (Kd.reads_of_C HR0.out))); have HC127 := A_ hC13; clear hA13 hC13 hi013 hsz13) | (go_at_call 45; refine calls_of_args (congrArg (fun n_ => #[Value.slice _ n_ _, _]) HL_.out) ?_; (with_reducible refine (Z65.calls k1 _ _ (l0.take (x10_1 : Int).toNat) (rd l0 x10_1) false _ ?side1 ?side2 A10.out).mono ?_); (case side1 => repeat (first | exact HR127.out | (with_reducible first | refine cA_ ?_ _ | refine cB_ ?_ _ | refine cC_ ?_))); (case side2 => exact HC127.out); rintro e w' ⟨rfl, ⟨nd, rfl⟩⟩))
          go_roundg k1
          case measure => have := HK1.out; omega
          case rel => exact ⟨(wrap64 (x10_1 + 1)), (by first | rfl | (simp; done) | (simp [*]; done)), H', ⟨by have := HK1.out; omega⟩, by repeat (first | exact Drawn0.refl _ | apply Drawn0.step)⟩
        ·rw [if_neg c9] at H
         exact absurd H (by simp)
       ·replace c7 := Bool.eq_false_iff.mpr c7
        subst c7
        have H1 : (some false) = some r := by rw [if_neg (show ¬ (false = true) by decide)] at H; exact H
        clear H
        have H := H1
        clear H1
        obtain rfl := Option.some.inj H
        have p125 : 0 ≤ (x10_1 : Int) := oB_ (by first | (with_reducible assumption) | assumption)
        have q125 : x10_1 < (l0.length : Int) := oB_ (by first | (with_reducible assumption) | assumption)
        obtain ⟨ad125, e125, hx125_0⟩ := Kd.at_int HR0.out x10_1 p125 q125
        cases e125
        replace p125 := eq_true p125
        replace q125 := eq_true q125
        have HL_ := A_ (show (x10_1 : Int).toNat = (l0.take (x10_1 : Int).toNat).length by rw [lB_]; have := of_eq_true q125; omega)
        go_wp2_with (first | ((with_reducible refine gA_ (f := 31) rfl ?_); refine goesL_ (some 19) rfl rfl Tryz.func31 (by kernel_rfl) rfl #[.int .i64 (rd l0 x10_1), .int .i64 0, .int .i64 (wrap64 ((l0.length : Int) - 1))] rfl (by (try simp only [mA_, mB_, mC_]); first | done | rfl | (simp only [lA_, lB_]; rfl)) ?_; (with_reducible refine (Z66.calls (rd l0 x10_1) 0 (wrap64 ((l0.length : Int) - 1)) false _ A6.out).mono ?_); rintro e w' ⟨rfl, ⟨nd, rfl⟩⟩; refine ⟨_, rfl, ?_⟩))
        go_ret
        exact ⟨by first | rfl | (simp; done) | (simp [*]; done), by repeat (first | exact Drawn0.refl _ | apply Drawn0.step)⟩
      ·rw [if_neg c5] at H
       exact absurd H (by simp)
     ·rw [if_neg c4] at H
      exact absurd H (by simp)
    ·rw [if_neg c3] at H
     have c3b0 : decide (x10_1 < (l0.length : Int)) = false := oD_ c3
     clear c3
     obtain rfl := Option.some.inj H
     go_wp2
     go_ret
     exact ⟨by first | rfl | (simp; done) | (simp [*]; done), by repeat (first | exact Drawn0.refl _ | apply Drawn0.step)⟩
end Go.Proofs.YtoijcallajegfaaGreat.A
end
section
namespace Go.Proofs.YtoijcallajegfaaGreat.A
open Go.RowKit Go.Proofs.YtoijcallajegfaaGreatW.PrintWords Go.Proofs.YtoijcallajegfaaGreatW.PrintLast Go.Proofs.YtoijcallajegfaaGreatW.PrintMore
attribute [local go_sem] max2_int min2_int max_two min_two max_three min_three max_four min_four
set_option linter.unusedVariables false
set_option linter.unusedSimpArgs false
mutual
def Z53.l0 : Nat → List Int → List Int → List Int → Int → Option (List Int)
 | 0, _, _, _, _ => none
 | k + 1, x0, x1, x7, x8 => if x8 < (x7.length : Int) then (if 0 ≤ x8 then (if 0 ≤ (rd x7 x8) then (if (rd x7 x8) < (x0.length : Int) then (if (rd x7 x8) < (x1.length : Int) then ((some (([rd x0 (rd x7 x8), rd x1 (rd x7 x8)] : List Int) : List Int)).bind fun y136 => (Z53.l1 k x0 x1 x7 x8 y136 (y136.length : Int) 0)) else (none)) else (none)) else (none)) else (none)) else (some x7)
def Z53.l1 : Nat → List Int → List Int → List Int → Int → List Int → Int → Int → Option (List Int)
 | 0, _, _, _, _, _, _, _ => none
 | k + 1, x0, x1, x7, x8, x33, x34, x35 => if x35 < x34 then (if 0 ≤ x35 then (if x35 < (x33.length : Int) then ((Z65.f k x7 (rd x33 x35)).bind fun t140 => (if t140 = true then (Z53.l1 k x0 x1 x7 x8 x33 x34 (wrap64 (x35 + 1))) else (if x7.length < 17592186044416 then (Z53.l1 k x0 x1 (x7 ++ [rd x33 x35]) x8 x33 x34 (wrap64 (x35 + 1))) else (none)))) else (none)) else (none)) else (Z53.l0 k x0 x1 x7 (wrap64 (x8 + 1)))
end
def Z53.f (k : Nat) (l0 : List Int) (l1 : List Int) (a2 : Int) : Option (List Int) := Z53.l0 k l0 l1 (([a2] : List Int)) 0
theorem Z53.mono_l : ∀ k, (∀ y0 y1 y2 y3, LeO (Z53.l0 k y0 y1 y2 y3) (Z53.l0 (k + 1) y0 y1 y2 y3)) ∧ (∀ y0 y1 y2 y3 y4 y5 y6, LeO (Z53.l1 k y0 y1 y2 y3 y4 y5 y6) (Z53.l1 (k + 1) y0 y1 y2 y3 y4 y5 y6))
 | 0 => ⟨fun _ _ _ _ r h => by simp [Z53.l0] at h, fun _ _ _ _ _ _ _ r h => by simp [Z53.l1] at h⟩
 | k + 1 => by
  obtain ⟨ih0, ih1⟩ := Z53.mono_l k
  refine ⟨?_, ?_⟩
  ·intro y0 y1 y2 y3
   unfold Z53.l0
   repeat' first|exact ih0 _ _ _ _|exact ih1 _ _ _ _ _ _ _|exact Z65.mono _ _ _|exact lo_|refine LeO.ite ?_ ?_|refine LeO.bind ?_ (fun _ => ?_)
  ·intro y0 y1 y2 y3 y4 y5 y6
   unfold Z53.l1
   repeat' first|exact ih0 _ _ _ _|exact ih1 _ _ _ _ _ _ _|exact Z65.mono _ _ _|exact lo_|refine LeO.ite ?_ ?_|refine LeO.bind ?_ (fun _ => ?_)
theorem Z53.mono : ∀ a0 a1 a2 k, LeO (Z53.f k a0 a1 a2) (Z53.f (k + 1) a0 a1 a2) := by
 intro a0 a1 a2 k
 obtain ⟨ih0, ih1⟩ := Z53.mono_l k
 unfold Z53.f
 repeat' first|exact ih0 _ _ _ _|exact ih1 _ _ _ _ _ _ _|exact Z65.mono _ _ _|exact lo_|refine LeO.ite ?_ ?_|refine LeO.bind ?_ (fun _ => ?_)
def Z53.T5 : Bool × List (List Nat × List Nat) := (true, [([], []), ([], []), ([], []), ([1, 2], [1, 2]), ([3], [3]), ([0, 4], [0, 4]), ([5], [5]), ([], []), ([], []), ([], []), ([8, 9], [8, 9]), ([10], [10]), ([7, 11], [7, 11]), ([12], [12]), ([6, 13], [6, 13]), ([14], [14]), ([], [])])
def Z53.B5 : List Nat := [0, 0, 0, 6, 14, 31, 63, 0, 0, 0, 768, 1792, 3968, 8064, 16383, 32767, 0]
theorem Z53.tab5 : rtab .any (opsOf Tryz.f76 5) = Z53.T5 := by kernel_rfl
theorem Z53.bits5 : waitsOk Z53.T5.2 Z53.B5 = true := by kernel_rfl
set_option maxHeartbeats 8000000 in
set_option maxRecDepth 100000 in
theorem Z53.calls (k : Nat) (A0 : Option Addr) (c0 : Nat) (l0 : List Int) (A1 : Option Addr) (c1 : Nat) (l1 : List Int) (a2 : Int) (r : List Int) (w : World) (hr0 : Kd.C (Kd.int .i64) w A0 l0.length l0) (hc0 : l0.length ≤ c0) (hr1 : Kd.C (Kd.int .i64) w A1 l1.length l1) (hc1 : l1.length ≤ c1) (h : Z53.f k l0 l1 a2 = some r) :
  Calls Tryz.prog 76 #[.slice A0 l0.length c0, .slice A1 l1.length c1, .int .i64 a2] w fun e w' => ∃ v0_ : Value, e = .returned (v0_) ∧ Kd.R (Kd.int .i64) 3 w' w.heap.size (fun _ => True) v0_ r ∧ Below w.heap.size w w' := by
 have HR0 := A_ hr0
 have HC0 := A_ hc0
 clear hr0 hc0
 have HR1 := A_ hr1
 have HC1 := A_ hc1
 clear hr1 hc1
 have HB := A_ (Below.refl w.heap.size w)
 have H := h
 unfold Z53.f at H
 clear h
 obtain ⟨y129, hy129⟩ : ∃ y_ : List Int, y_ = (([a2] : List Int)) := ⟨_, rfl⟩
 replace H : (Z53.l0 k l0 l1 y129 0) = some r := by first | (rw [hy129]; exact H) | exact H
 have Ny129 := A_ hy129
 clear hy129
 have H' := A_ H
 clear H
 go_enter Tryz.func76, Tryz.ntmps76
 go_wp2_with (first | ((with_reducible refine gB_ (N := 12) rfl ?_); refine Kd.R_lit (Kd.int .i64) _ 3 ?hg (N := 12) ?hd (xs := ([a2] : List Int)) (inner := [.int .i64 a2]) (ok := fun _ => True) (okp := fun _ => True) ?hr ?hp (fun _ hk => hk) trivial (Below.refl _ _) (nA_ _) (by simp) ?_; (case hd => rfl); (case hg => rfl); (case hr => first | (go_simp; done) | (go_simp; rfl)); (case hp => exact (Reps.one (show Kd.M (Kd.int .i64) _ _ _ a2 [.int .i64 a2] from rfl) (Reps.none _ _))); intro v130 w4 ho5 hb hg_ hnew_; clear hg_ hnew_; (first | rw [← Ny129.out] at ho5 | (simp only [Int.reduceToNat] at ho5; rw [← Ny129.out] at ho5)); have HO131 := rl_ w ho5; replace HB := b1_ hb; clear hb ho5))
 go_loopg [7, 8] k (fun kq v7 v8 w' => ∃ (x7_1 : List Int) (x8_1 : Int), v8 = .int .i64 x8_1 ∧ Aside0 (Z53.l0 kq l0 l1 x7_1 x8_1 = some r) ∧ Aside0 (kq ≤ k) ∧ Aside0 (Kd.R (Kd.int .i64) 3 w' w.heap.size (fun _ => True) v7 x7_1) ∧ Aside0 (Below w.heap.size w w'))
 case atStart => exact ⟨(y129), (0), qc_, H', ⟨nA_ _⟩, ⟨(rr_ HO131)⟩, ⟨hB_⟩⟩
 case round =>
  clear H'
  obtain ⟨x7_1, x8_1, rfl, HA, HK1, HO_7, HB⟩ := hrel
  cases gk with
  | zero => exact absurd HA.out (by simp [Z53.l0])
  | succ k1 =>
   have H := HA.out
   clear HA
   simp only [Z53.l0] at H
   by_cases c6 : x8_1 < (x7_1.length : Int)
   ·rw [if_pos c6] at H
    have c6b0 := oC_ c6
    clear c6
    have c7 := cp_ H
    replace H := ca_ H
    have c7b0 := oC_ c7
    clear c7
    have c8 := cp_ H
    replace H := ca_ H
    have c8b0 := oC_ c8
    clear c8
    have c9 := cp_ H
    replace H := ca_ H
    have c9b0 := oC_ c9
    clear c9
    have c10 := cp_ H
    replace H := ca_ H
    have c10b0 := oC_ c10
    clear c10
    obtain ⟨y136, hy136⟩ : ∃ y_ : List Int, y_ = (([rd l0 (rd x7_1 x8_1), rd l1 (rd x7_1 x8_1)] : List Int)) := ⟨_, rfl⟩
    replace H : (Z53.l1 k1 l0 l1 x7_1 x8_1 y136 (y136.length : Int) 0) = some r := by first | (rw [hy136]; exact H) | exact H
    have Ny136 := A_ hy136
    clear hy136
    have H' := A_ H
    clear H
    obtain ⟨Ao11, co11, eo11⟩ := Kd.R_slice HO_7.out
    subst eo11
    try go_wp2
    replace HO_7 := A_ (rC_ HO_7.out)
    replace HB := A_ (bC_ HB.out)
    have p132 : 0 ≤ (x8_1 : Int) := oB_ qe_
    have q132 : x8_1 < (x7_1.length : Int) := oB_ qe_
    obtain ⟨ad132, e132, hx132_0⟩ := Kd.at_int (Kd.R_reads' HO_7.out).2.2 x8_1 p132 q132
    cases e132
    replace p132 := eq_true p132
    replace q132 := eq_true q132
    have p133 : 0 ≤ ((rd x7_1 x8_1) : Int) := oB_ qe_
    have q133 : (rd x7_1 x8_1) < (l0.length : Int) := oB_ qe_
    obtain ⟨ad133, e133, hx133_0⟩ := Kd.at_int HR0.out (rd x7_1 x8_1) p133 q133
    have hw133_0 := hx133_0
    cases e133
    replace hx133_0 := (HB.out.cell (World.block_lt_of_cell? w _ hx133_0)).trans hx133_0
    replace p133 := eq_true p133
    replace q133 := eq_true q133
    have p134 : 0 ≤ (x8_1 : Int) := oB_ qe_
    have q134 : x8_1 < (x7_1.length : Int) := oB_ qe_
    obtain ⟨ad134, e134, hx134_0⟩ := Kd.at_int (Kd.R_reads' HO_7.out).2.2 x8_1 p134 q134
    obtain rfl : ad132 = ad134 := (by injection e134)
    replace p134 := eq_true p134
    replace q134 := eq_true q134
    have p135 : 0 ≤ ((rd x7_1 x8_1) : Int) := oB_ qe_
    have q135 : (rd x7_1 x8_1) < (l1.length : Int) := oB_ qe_
    obtain ⟨ad135, e135, hx135_0⟩ := Kd.at_int HR1.out (rd x7_1 x8_1) p135 q135
    have hw135_0 := hx135_0
    cases e135
    replace hx135_0 := (HB.out.cell (World.block_lt_of_cell? w _ hx135_0)).trans hx135_0
    replace p135 := eq_true p135
    replace q135 := eq_true q135
    refine start_ (n := 17) (S := fun w' => w'.cell? (ad132.add (x8_1).toNat) = some (.int .i64 (rd x7_1 x8_1)) ∧ w'.cell? (ad133.add ((rd x7_1 x8_1)).toNat) = some (.int .i64 (rd l0 (rd x7_1 x8_1))) ∧ w'.cell? (ad132.add (x8_1).toNat) = some (.int .i64 (rd x7_1 x8_1)) ∧ w'.cell? (ad135.add ((rd x7_1 x8_1)).toNat) = some (.int .i64 (rd l1 (rd x7_1 x8_1)))) (ds := []) (bl_ 17 0) (by kernel_rfl) rfl (by kernel_rfl) ⟨hx132_0, ((HB.out.cell (World.block_lt_of_cell? w _ hw133_0)).trans hw133_0), hx134_0, ((HB.out.cell (World.block_lt_of_cell? w _ hw135_0)).trans hw135_0)⟩ (fun hHeld => ?_); refine with_tabW Z53.tab5 Z53.bits5 (fun HT_ HW_ => ?_)
    generalize wr.drew = w12 at HO_7 HB hx132_0 hx133_0 hx134_0 hx135_0 hHeld ⊢
    refine pu_ 0 (some 19) (bl_ 17 1) HT_ ?_
    refine pu_ 1 (some 20) (bl_ 17 3) HT_ ?_
    refine pu_ 2 (some 21) (bl_ 17 7) HT_ ?_
    refine pu_ 3 (some 22) (bl_ 17 15) HT_ ?_
    refine pu_ 7 (some 26) (bl_ 17 143) HT_ ?_
    refine pu_ 8 (some 27) (bl_ 17 399) HT_ ?_
    refine pu_ 9 (some 28) (bl_ 17 911) HT_ ?_
    refine pu_ 10 (some 29) (bl_ 17 1935) HT_ ?_
    refine pu_ 16 (some 35) (bl_ 17 67471) HT_ ?_
    refine ta_ 4 (some 23) (bl_ 17 67487) HT_ HW_ hHeld ?_
    refine pu_ 5 (some 24) (bl_ 17 67519) HT_ ?_
    refine ta_ 6 (some 25) (bl_ 17 67583) HT_ HW_ hHeld ?_
    refine ta_ 11 (some 30) (bl_ 17 69631) HT_ HW_ hHeld ?_
    refine pu_ 12 (some 31) (bl_ 17 73727) HT_ ?_
    refine ta_ 13 (some 32) (bl_ 17 81919) HT_ HW_ hHeld ?_
    refine on_ 14 (some 33) (bl_ 17 98303) HT_ (fun K hK => ?_)
    refine Kd.R_lit_step (Kd.int .i64) _ 3 ?hg (N := 33) ?hd (xs := ([rd l0 (rd x7_1 x8_1), rd l1 (rd x7_1 x8_1)] : List Int)) (inner := [.int .i64 (rd l0 (rd x7_1 x8_1)), .int .i64 (rd l1 (rd x7_1 x8_1))]) (ok := fun _ => True) (okp := fun _ => True) ?hr ?hp (fun _ hk => hk) trivial (Below.refl _ _) (nA_ _) (by simp) ?_; (case hd => rfl); (case hg => rfl); (case hr => first | (go_simp; done) | (go_simp; rfl)); (case hp => exact (Reps.one (show Kd.M (Kd.int .i64) _ _ _ (rd l0 (rd x7_1 x8_1)) [.int .i64 (rd l0 (rd x7_1 x8_1))] from rfl) (Reps.one (show Kd.M (Kd.int .i64) _ _ _ (rd l1 (rd x7_1 x8_1)) [.int .i64 (rd l1 (rd x7_1 x8_1))] from rfl) (Reps.none _ _))))
    intro v137 w13 ho14 hb hg_ hnew_
    have HS0_ := (hb.cell (World.block_lt_of_cell? _ _ (hHeld.1))).trans (hHeld.1)
    have HS2_ := (hb.cell (World.block_lt_of_cell? _ _ (hHeld.2.2.1))).trans (hHeld.2.2.1)
    clear hg_ hnew_
    (first | rw [← Ny136.out] at ho14 | (simp only [Int.reduceToNat] at ho14; rw [← Ny136.out] at ho14))
    have HO138 := A_ (rE_ (Kd.R_new' ho14 (Kd.R_lt (rr_ HO_7))) (bF_ hB_))
    replace HO_7 := A_ (Kd.R_elder' (rr_ HO_7) (Kd.R_base ho14) hb)
    replace HB := b1_ hb
    clear hb ho14
    obtain ⟨Ao15, co15, eo15⟩ := Kd.R_slice HO138.out
    (first | subst eo15 | (injection eo15 with f1_ f2_ f3_; have f4_ := f1_.symm; have f5_ := f3_.symm; clear f1_ f2_ f3_; subst f4_; subst f5_))
    refine hK.out _ _ ⟨HS0_, ((HB.out.cell (World.block_lt_of_cell? w _ hw133_0)).trans hw133_0), HS2_, ((HB.out.cell (World.block_lt_of_cell? w _ hw135_0)).trans hw135_0)⟩ (fun hHeld => ?_)
    clear hK K
    refine no_ (some 33) ?_
    refine pu_ 15 (some 34) (bl_ 17 131071) HT_ ?_
    refine done_ (done_of HT_.out (by kernel_rfl)) ?_
    try go_wp2
    go_loopg [7, 35] k1 (fun kq v7 v35 w' => ∃ (x7_2 : List Int) (x35_2 : Int), v35 = .int .i64 x35_2 ∧ Aside0 (Z53.l1 kq l0 l1 x7_2 x8_1 y136 (y136.length : Int) x35_2 = some r) ∧ Aside0 (kq ≤ k1) ∧ Aside0 (Kd.R (Kd.int .i64) 3 w' w.heap.size (fun k_ => some k_ ≠ ((.slice Ao15 y136.length co15) : Value).ownBlock) v7 x7_2) ∧ Aside0 (Kd.R (Kd.int .i64) 3 w' w.heap.size (fun k_ => some k_ ≠ (v7 : Value).ownBlock) (.slice Ao15 y136.length co15) y136) ∧ Aside0 (Below w.heap.size w w'))
    case atStart => exact ⟨(x7_1), (0), qc_, H', ⟨nA_ _⟩, ⟨(rw_ (Kd.R_mono HO_7.out (fun _ hk => hk.2)))⟩, ⟨(rw_ (Kd.R_mono HO138.out (fun _ hk => hk.2)))⟩, ⟨hB_⟩⟩
    case round =>
     clear H'
     obtain ⟨x7_2, x35_2, rfl, HA, HK2, HO_7, HO_33, HB⟩ := hrel
     cases gk with
     | zero => exact absurd HA.out (by simp [Z53.l1])
     | succ k2 =>
      have H := HA.out
      clear HA
      simp only [Z53.l1] at H
      by_cases c16 : x35_2 < (y136.length : Int)
      ·rw [if_pos c16] at H
       have c16b0 := oC_ c16
       clear c16
       have c17 := cp_ H
       replace H := ca_ H
       have c17b0 := oC_ c17
       clear c17
       have c18 := cp_ H
       replace H := ca_ H
       have c18b0 := oC_ c18
       clear c18
       obtain ⟨t140, A19, H⟩ := bi_ H
       by_cases c20 : t140 = true
       ·subst c20
        rw [if_pos rfl] at H
        have H' := A_ H
        clear H
        have p139 : 0 ≤ (x35_2 : Int) := oB_ qe_
        have q139 : x35_2 < (y136.length : Int) := oB_ qe_
        obtain ⟨ad139, e139, hx139_0⟩ := Kd.at_int (Kd.R_reads' HO_33.out).2.2 x35_2 p139 q139
        cases e139
        replace p139 := eq_true p139
        replace q139 := eq_true q139
        obtain ⟨Ao21, co21, eo21⟩ := Kd.R_slice HO_7.out
        subst eo21
        go_wp2_with (first | ((with_reducible refine gA_ (f := 45) rfl ?_); refine gL_ (some 41) Tryz.func45 #[.slice Ao21 x7_2.length co21, .int .i64 (rd y136 x35_2)] rfl qa_ ?_; (with_reducible refine (Z65.calls k2 _ _ x7_2 (rd y136 x35_2) true _ (cr_ HO_7) ((Kd.R_reads' HO_7.out).2.1) A19.out).mono ?_); rintro e w' ⟨rfl, ⟨nd, rfl⟩⟩; refine ⟨_, rfl, ?_⟩))
        go_roundg k2
        case measure => have := HK1.out; have := HK2.out; omega
        case rel => exact ⟨(x7_2), (wrap64 (x35_2 + 1)), qc_, H', ⟨by have := HK1.out; have := HK2.out; omega⟩, ⟨(rr_ HO_7)⟩, ⟨(rr_ HO_33)⟩, ⟨hB_⟩⟩
       ·replace c20 := Bool.eq_false_iff.mpr c20
        subst c20
        have H1 : (if x7_2.length < 17592186044416 then (Z53.l1 k2 l0 l1 (x7_2 ++ [rd y136 x35_2]) x8_1 y136 (y136.length : Int) (wrap64 (x35_2 + 1))) else (none)) = some r := by rw [if_neg (show ¬ (false = true) by decide)] at H; exact H
        clear H
        have H := H1
        clear H1
        have c22 := cp_ H
        replace H := ca_ H
        have LMc22 := A_ c22
        clear c22
        obtain ⟨y141, hy141⟩ : ∃ y_ : List Int, y_ = (x7_2 ++ [rd y136 x35_2]) := ⟨_, rfl⟩
        replace H : (Z53.l1 k2 l0 l1 y141 x8_1 y136 (y136.length : Int) (wrap64 (x35_2 + 1))) = some r := by first | (rw [hy141]; exact H) | exact H
        have Ny141 := A_ hy141
        clear hy141
        have H' := A_ H
        clear H
        have p139 : 0 ≤ (x35_2 : Int) := oB_ qe_
        have q139 : x35_2 < (y136.length : Int) := oB_ qe_
        obtain ⟨ad139, e139, hx139_0⟩ := Kd.at_int (Kd.R_reads' HO_33.out).2.2 x35_2 p139 q139
        cases e139
        replace p139 := eq_true p139
        replace q139 := eq_true q139
        obtain ⟨Ao23, co23, eo23⟩ := Kd.R_slice HO_7.out
        subst eo23
        go_wp2_with (first | ((with_reducible refine gA_ (f := 45) rfl ?_); refine gL_ (some 41) Tryz.func45 #[.slice Ao23 x7_2.length co23, .int .i64 (rd y136 x35_2)] rfl qa_ ?_; (with_reducible refine (Z65.calls k2 _ _ x7_2 (rd y136 x35_2) false _ (cr_ HO_7) ((Kd.R_reads' HO_7.out).2.1) A19.out).mono ?_); rintro e w' ⟨rfl, ⟨nd, rfl⟩⟩; refine ⟨_, rfl, ?_⟩) | ((with_reducible refine gate_builtin (b := .append) (xs := #[.tmp 43, .tmp 45]) rfl ?_); at_builtin; refine Kd.R_append (Kd.int .i64) (w0 := w) w.heap.size rfl (.tmp 43) (.tmp 45) 27 3 (.int .i64 0) 8 rfl Tryz.underlying27 info3 rfl (by decide) (by omega) (.slice Ao23 x7_2.length co23) x7_2 (rd y136 x35_2) [.int .i64 (rd y136 x35_2)] (fun k_ => some k_ ≠ (.slice (some ad139) y136.length co15 : Value).ownBlock) (fun _ => False) rfl rfl ?aP (fun _ hk => hk.elim) ?aF ?aO ?aB ?aS ?aL ?_; (case aP => exact rfl); (case aB => exact hB_); (case aF => exact (fun k_ hk => Kd.fresh' (Kd.R_lt (rr_ HO_33)) k_ hk)); (case aO => exact (rr_ HO_7)); (case aS => exact (bF_ hB_)); (case aL => have := LMc22.out; omega); intro v142 w24 ho hb hg hat; rw [← Ny141.out] at ho; replace HO_33 := A_ (Kd.R_after (ok := (fun _ => True)) (rw_ (Kd.R_mono HO_33.out (fun _ hk => ⟨trivial, hk⟩))) hg hat); replace HB := A_ hb; have HO143 := A_ ho; clear HO_7; clear ho hb hg hat))
        go_roundg k2
        case measure => have := HK1.out; have := HK2.out; omega
        case rel => exact ⟨(y141), (wrap64 (x35_2 + 1)), qc_, H', ⟨by have := HK1.out; have := HK2.out; omega⟩, ⟨(rr_ HO143)⟩, ⟨(rw_ (Kd.R_mono HO_33.out (fun _ hk => hk.2)))⟩, ⟨hB_⟩⟩
      ·rw [if_neg c16] at H
       have c16b0 := oD_ c16
       clear c16
       have H' := A_ H
       clear H
       go_wp2
       go_roundg k2
       case measure => have := HK1.out; have := HK2.out; omega
       case rel => exact ⟨(x7_2), (wrap64 (x8_1 + 1)), qc_, H', ⟨by have := HK1.out; have := HK2.out; omega⟩, ⟨(rw_ (Kd.R_mono HO_7.out (fun _ hk => trivial)))⟩, ⟨hB_⟩⟩
   ·rw [if_neg c6] at H
    have c6b0 := oD_ c6
    clear c6
    obtain rfl := Option.some.inj H
    obtain ⟨Ao25, co25, eo25⟩ := Kd.R_slice HO_7.out
    subst eo25
    go_wp2
    go_ret
    exact ⟨_, qb_, (rr_ HO_7), hB_⟩
end Go.Proofs.YtoijcallajegfaaGreat.A
end
section
namespace Go.Proofs.YtoijcallajegfaaGreat.A
open Go.RowKit Go.Proofs.YtoijcallajegfaaGreatW.PrintWords Go.Proofs.YtoijcallajegfaaGreatW.PrintLast Go.Proofs.YtoijcallajegfaaGreatW.PrintMore
attribute [local go_sem] max2_int min2_int max_two min_two max_three min_three max_four min_four
set_option linter.unusedVariables false
set_option linter.unusedSimpArgs false
def Z14.f (k : Nat) (l0 : List Int) (l1 : List Int) : Option (Bool) := (Z64.f k l0).bind fun t144 => (if t144 = true then ((Z64.f k l1).bind fun t145 => (if t145 = true then (if (l0.length : Int) = (l1.length : Int) then (if (l0.length : Int) > 0 then ((Z53.f k l0 l1 0).bind fun t146 => (some ((t146.length : Int) == (l0.length : Int)))) else (some false)) else (some false)) else (some false))) else (some false))
theorem Z14.mono : ∀ a0 a1 k, LeO (Z14.f k a0 a1) (Z14.f (k + 1) a0 a1) := by
 intro a0 a1 k
 unfold Z14.f
 repeat' first|exact Z64.mono _ _|exact Z53.mono _ _ _ _|exact lo_|refine LeO.ite ?_ ?_|refine LeO.bind ?_ (fun _ => ?_)
set_option maxHeartbeats 8000000 in
set_option maxRecDepth 100000 in
theorem Z14.calls (k : Nat) (A0 : Option Addr) (c0 : Nat) (l0 : List Int) (A1 : Option Addr) (c1 : Nat) (l1 : List Int) (r : Bool) (w : World) (hr0 : Kd.C (Kd.int .i64) w A0 l0.length l0) (hc0 : l0.length ≤ c0) (hr1 : Kd.C (Kd.int .i64) w A1 l1.length l1) (hc1 : l1.length ≤ c1) (h : Z14.f k l0 l1 = some r) :
  Calls Tryz.prog 46 #[.slice A0 l0.length c0, .slice A1 l1.length c1] w fun e w' => e = .returned (.bool r) ∧ Below w.heap.size w w' := by
 have HR0 := A_ hr0
 have HC0 := A_ hc0
 clear hr0 hc0
 have HR1 := A_ hr1
 have HC1 := A_ hc1
 clear hr1 hc1
 have HB := A_ (Below.refl w.heap.size w)
 have H := h
 unfold Z14.f at H
 clear h
 obtain ⟨t144, A3, H⟩ := bi_ H
 by_cases c4 : t144 = true
 ·subst c4
  rw [if_pos rfl] at H
  obtain ⟨t145, A5, H⟩ := bi_ H
  by_cases c6 : t145 = true
  ·subst c6
   rw [if_pos rfl] at H
   by_cases c7 : (l0.length : Int) = (l1.length : Int)
   ·rw [if_pos c7] at H
    have c7b0 : ((l0.length : Int) == (l1.length : Int)) = true := beq_iff_eq.mpr c7
    have c7b1 : ((l0.length : Int) != (l1.length : Int)) = false := bne_eq_false_iff_eq.mpr c7
    have c7b2 : (l0.length == l1.length) = true := by first | simpa using c7 | (simp at c7 ⊢; omega)
    clear c7
    by_cases c8 : (l0.length : Int) > 0
    ·rw [if_pos c8] at H
     have c8b0 : decide (0 < (l0.length : Int)) = true := oC_ c8
     have c8b1 : decide (0 < l0.length) = true := oC_ (by omega)
     clear c8
     obtain ⟨t146, A9, H⟩ := bi_ H
     obtain rfl := Option.some.inj H
     go_enter Tryz.func46, Tryz.ntmps46
     go_wp2_with (first | ((with_reducible refine gA_ (f := 75) rfl ?_); refine gL_ (some 6) Tryz.func75 #[.slice A0 l0.length c0] rfl qa_ ?_; (with_reducible refine (Z64.calls k _ _ l0 true _ (cc_ HR0) HC0.out A3.out).mono ?_); rintro e w' ⟨rfl, ⟨nd, rfl⟩⟩; refine ⟨_, rfl, ?_⟩) | (go_at_call 75; (with_reducible refine (Z64.calls k _ _ l1 true _ (cc_ HR1) HC1.out A5.out).mono ?_); rintro e w' ⟨rfl, ⟨nd, rfl⟩⟩) | (go_at_call 76; (with_reducible refine (Z53.calls k _ _ l0 _ _ l1 0 t146 _ (cc_ HR0) HC0.out (cc_ HR1) HC1.out A9.out).mono ?_); rintro e w10 ⟨v147, rfl, ho0, hb⟩; have HO148 := rl_ w ho0; replace HB := b1_ hb; clear hb ho0; obtain ⟨Ao11, co11, eo11⟩ := Kd.R_slice HO148.out; subst eo11))
     go_ret
     exact ⟨qb_, hB_⟩
    ·rw [if_neg c8] at H
     have c8b0 : decide (0 < (l0.length : Int)) = false := oD_ c8
     have c8b1 : decide (0 < l0.length) = false := oD_ (by omega)
     clear c8
     obtain rfl := Option.some.inj H
     go_enter Tryz.func46, Tryz.ntmps46
     go_wp2_with (first | ((with_reducible refine gA_ (f := 75) rfl ?_); refine gL_ (some 6) Tryz.func75 #[.slice A0 l0.length c0] rfl qa_ ?_; (with_reducible refine (Z64.calls k _ _ l0 true _ (cc_ HR0) HC0.out A3.out).mono ?_); rintro e w' ⟨rfl, ⟨nd, rfl⟩⟩; refine ⟨_, rfl, ?_⟩) | (go_at_call 75; (with_reducible refine (Z64.calls k _ _ l1 true _ (cc_ HR1) HC1.out A5.out).mono ?_); rintro e w' ⟨rfl, ⟨nd, rfl⟩⟩))
     go_ret
     exact ⟨qb_, hB_⟩
   ·rw [if_neg c7] at H
    have c7b0 : ((l0.length : Int) == (l1.length : Int)) = false := beq_eq_false_iff_ne.mpr c7
    have c7b1 : ((l0.length : Int) != (l1.length : Int)) = true := bne_iff_ne.mpr c7
    have c7b2 : (l0.length == l1.length) = false := by first | simpa using c7 | (simp at c7 ⊢; omega)
    obtain rfl := Option.some.inj H
    go_enter Tryz.func46, Tryz.ntmps46
    go_wp2_with (first | ((with_reducible refine gA_ (f := 75) rfl ?_); refine gL_ (some 6) Tryz.func75 #[.slice A0 l0.length c0] rfl qa_ ?_; (with_reducible refine (Z64.calls k _ _ l0 true _ (cc_ HR0) HC0.out A3.out).mono ?_); rintro e w' ⟨rfl, ⟨nd, rfl⟩⟩; refine ⟨_, rfl, ?_⟩) | (go_at_call 75; (with_reducible refine (Z64.calls k _ _ l1 true _ (cc_ HR1) HC1.out A5.out).mono ?_); rintro e w' ⟨rfl, ⟨nd, rfl⟩⟩))
    go_ret
    exact ⟨qb_, hB_⟩
  ·replace c6 := Bool.eq_false_iff.mpr c6
   subst c6
   have H1 : (some false) = some r := by rw [if_neg (show ¬ (false = true) by decide)] at H; exact H
   clear H
   have H := H1
   clear H1
   obtain rfl := Option.some.inj H
   go_enter Tryz.func46, Tryz.ntmps46
   go_wp2_with (first | ((with_reducible refine gA_ (f := 75) rfl ?_); refine gL_ (some 6) Tryz.func75 #[.slice A0 l0.length c0] rfl qa_ ?_; (with_reducible refine (Z64.calls k _ _ l0 true _ (cc_ HR0) HC0.out A3.out).mono ?_); rintro e w' ⟨rfl, ⟨nd, rfl⟩⟩; refine ⟨_, rfl, ?_⟩) | (go_at_call 75; (with_reducible refine (Z64.calls k _ _ l1 false _ (cc_ HR1) HC1.out A5.out).mono ?_); rintro e w' ⟨rfl, ⟨nd, rfl⟩⟩))
   go_ret
   exact ⟨qb_, hB_⟩
 ·replace c4 := Bool.eq_false_iff.mpr c4
  subst c4
  have H1 : (some false) = some r := by rw [if_neg (show ¬ (false = true) by decide)] at H; exact H
  clear H
  have H := H1
  clear H1
  obtain rfl := Option.some.inj H
  go_enter Tryz.func46, Tryz.ntmps46
  go_wp2_with (first | ((with_reducible refine gA_ (f := 75) rfl ?_); refine gL_ (some 6) Tryz.func75 #[.slice A0 l0.length c0] rfl qa_ ?_; (with_reducible refine (Z64.calls k _ _ l0 false _ (cc_ HR0) HC0.out A3.out).mono ?_); rintro e w' ⟨rfl, ⟨nd, rfl⟩⟩; refine ⟨_, rfl, ?_⟩))
  go_ret
  exact ⟨qb_, hB_⟩
def Z34.f (k : Nat) (l0_0 : List Int) (l0_1 : List Int) : Option (Bool) := (Z14.f k l0_0 l0_1).bind fun t150 => (some t150)
theorem Z34.mono : ∀ a0 a1 k, LeO (Z34.f k a0 a1) (Z34.f (k + 1) a0 a1) := by
 intro a0 a1 k
 unfold Z34.f
 repeat' first|exact Z14.mono _ _ _|exact lo_|refine LeO.ite ?_ ?_|refine LeO.bind ?_ (fun _ => ?_)
set_option maxHeartbeats 8000000 in
set_option maxRecDepth 100000 in
theorem Z34.calls (k : Nat) (A0_0 : Option Addr) (c0_0 : Nat) (l0_0 : List Int) (A0_1 : Option Addr) (c0_1 : Nat) (l0_1 : List Int) (r : Bool) (w : World) (hr0_0 : Kd.C (Kd.int .i64) w A0_0 l0_0.length l0_0) (hc0_0 : l0_0.length ≤ c0_0) (hr0_1 : Kd.C (Kd.int .i64) w A0_1 l0_1.length l0_1) (hc0_1 : l0_1.length ≤ c0_1) (h : Z34.f k l0_0 l0_1 = some r) :
  Calls Tryz.prog 33 #[.agg #[.slice A0_0 l0_0.length c0_0, .slice A0_1 l0_1.length c0_1]] w fun e w' => e = .returned (.bool r) ∧ Below w.heap.size w w' := by
 have hu38 := Tryz.underlying38
 have HR0_0 := A_ hr0_0
 have HC0_0 := A_ hc0_0
 clear hr0_0 hc0_0
 have HR0_1 := A_ hr0_1
 have HC0_1 := A_ hc0_1
 clear hr0_1 hc0_1
 have HB := A_ (Below.refl w.heap.size w)
 have H := h
 unfold Z34.f at H
 clear h
 obtain ⟨t150, A2, H⟩ := bi_ H
 obtain rfl := Option.some.inj H
 go_enter Tryz.func33, Tryz.ntmps33
 go_wp2_with (first | ((with_reducible refine gB_ (N := 1) rfl ?_); refine bx_ 1 #[.slice A0_0 l0_0.length c0_0, .slice A0_1 l0_1.length c0_1] 38 ?_; intro gb149 hg w3 hbox hb; have BK149 := A_ hbox; have GW149 := gw_ w hg; have GE149 := GW149; replace HB := b1_ hb; clear hb hbox hg; obtain ⟨hcz4_0, hcz4_1, hfz4_0, hfz4_1⟩ := c2_ BK149) | ((with_reducible refine gA_ (f := 46) rfl ?_); refine gL_ (some 7) Tryz.func46 #[.slice A0_0 l0_0.length c0_0, .slice A0_1 l0_1.length c0_1] rfl qa_ ?_; (with_reducible refine (Z14.calls k _ _ l0_0 _ _ l0_1 t150 _ (cb_ HR0_0) HC0_0.out (cb_ HR0_1) HC0_1.out A2.out).mono ?_); rintro e w5 ⟨rfl, hb⟩; refine ⟨_, rfl, ?_⟩; replace BK149 := bb_ BK149 hb; replace HB := b1_ hb; clear hb))
 go_ret
 exact ⟨qb_, hB_⟩
def Z17.f (k : Nat) (l0_0 : List Int) (l0_1 : List Int) (l1_0 : List Int) (l1_1 : List Int) : Option (Bool) := (Z52.f k l0_0 l1_0).bind fun t155 => (if t155 = true then ((Z52.f k l0_1 l1_1).bind fun t156 => (some t156)) else (some false))
theorem Z17.mono : ∀ a0 a1 a2 a3 k, LeO (Z17.f k a0 a1 a2 a3) (Z17.f (k + 1) a0 a1 a2 a3) := by
 intro a0 a1 a2 a3 k
 unfold Z17.f
 repeat' first|exact Z52.mono _ _ _|exact lo_|refine LeO.ite ?_ ?_|refine LeO.bind ?_ (fun _ => ?_)
set_option maxHeartbeats 8000000 in
set_option maxRecDepth 100000 in
theorem Z17.calls (k : Nat) (A0_0 : Option Addr) (c0_0 : Nat) (l0_0 : List Int) (A0_1 : Option Addr) (c0_1 : Nat) (l0_1 : List Int) (A1_0 : Option Addr) (c1_0 : Nat) (l1_0 : List Int) (A1_1 : Option Addr) (c1_1 : Nat) (l1_1 : List Int) (r : Bool) (w : World) (hr0_0 : Kd.C (Kd.int .i64) w A0_0 l0_0.length l0_0) (hc0_0 : l0_0.length ≤ c0_0) (hr0_1 : Kd.C (Kd.int .i64) w A0_1 l0_1.length l0_1) (hc0_1 : l0_1.length ≤ c0_1) (hr1_0 : Kd.C (Kd.int .i64) w A1_0 l1_0.length l1_0) (hc1_0 : l1_0.length ≤ c1_0) (hr1_1 : Kd.C (Kd.int .i64) w A1_1 l1_1.length l1_1) (hc1_1 : l1_1.length ≤ c1_1) (h : Z17.f k l0_0 l0_1 l1_0 l1_1 = some r) :
  Calls Tryz.prog 47 #[.agg #[.slice A0_0 l0_0.length c0_0, .slice A0_1 l0_1.length c0_1], .agg #[.slice A1_0 l1_0.length c1_0, .slice A1_1 l1_1.length c1_1]] w fun e w' => e = .returned (.bool r) ∧ Below w.heap.size w w' := by
 have hu38 := Tryz.underlying38
 have HR0_0 := A_ hr0_0
 have HC0_0 := A_ hc0_0
 clear hr0_0 hc0_0
 have HR0_1 := A_ hr0_1
 have HC0_1 := A_ hc0_1
 clear hr0_1 hc0_1
 have HR1_0 := A_ hr1_0
 have HC1_0 := A_ hc1_0
 clear hr1_0 hc1_0
 have HR1_1 := A_ hr1_1
 have HC1_1 := A_ hc1_1
 clear hr1_1 hc1_1
 have HB := A_ (Below.refl w.heap.size w)
 have H := h
 unfold Z17.f at H
 clear h
 obtain ⟨t155, A3, H⟩ := bi_ H
 by_cases c4 : t155 = true
 ·subst c4
  rw [if_pos rfl] at H
  obtain ⟨t156, A5, H⟩ := bi_ H
  obtain rfl := Option.some.inj H
  go_enter Tryz.func47, Tryz.ntmps47
  go_wp2_with (first | ((with_reducible refine gB_ (N := 2) rfl ?_); refine bx_ 2 #[.slice A0_0 l0_0.length c0_0, .slice A0_1 l0_1.length c0_1] 38 ?_; intro gb153 hg w6 hbox hb; have BK153 := A_ hbox; have GW153 := gw_ w hg; have GE153 := GW153; replace HB := b1_ hb; clear hb hbox hg) | ((with_reducible refine gB_ (N := 3) rfl ?_); refine bx_ 3 #[.slice A1_0 l1_0.length c1_0, .slice A1_1 l1_1.length c1_1] 38 ?_; intro gb154 hg w7 hbox hb; have BK154 := A_ hbox; have GW154 := gw_ w hg; have GE154 := GW154; replace HB := b1_ hb; have NB153_154 := gN_ BK153 hg; have NB154_153 := gP_ BK153 hg; replace BK153 := bb_ BK153 hb; clear hb hbox hg; have hnb8 := NB153_154.out; have hnc8 := NB154_153.out; obtain ⟨hcz9_0, hcz9_1, hfz9_0, hfz9_1⟩ := c2_ BK153; obtain ⟨hcz10_0, hcz10_1, hfz10_0, hfz10_1⟩ := c2_ BK154) | ((with_reducible refine gA_ (f := 21) rfl ?_); refine gL_ (some 9) Tryz.func21 #[.slice A0_0 l0_0.length c0_0, .slice A1_0 l1_0.length c1_0] rfl qa_ ?_; (with_reducible refine (Z52.calls k _ _ l0_0 _ _ l1_0 true _ (cb_ HR0_0) HC0_0.out (cb_ HR1_0) HC1_0.out A3.out).mono ?_); rintro e w' ⟨rfl, ⟨nd, rfl⟩⟩; refine ⟨_, rfl, ?_⟩) | (go_at_call 21; (with_reducible refine (Z52.calls k _ _ l0_1 _ _ l1_1 t156 _ (cw_ (cD_ HR0_1.out hB_)) HC0_1.out (cw_ (cD_ HR1_1.out hB_)) HC1_1.out A5.out).mono ?_); rintro e w' ⟨rfl, ⟨nd, rfl⟩⟩))
  go_ret
  exact ⟨qb_, hB_⟩
 ·replace c4 := Bool.eq_false_iff.mpr c4
  subst c4
  have H1 : (some false) = some r := by rw [if_neg (show ¬ (false = true) by decide)] at H; exact H
  clear H
  have H := H1
  clear H1
  obtain rfl := Option.some.inj H
  go_enter Tryz.func47, Tryz.ntmps47
  go_wp2_with (first | ((with_reducible refine gB_ (N := 2) rfl ?_); refine bx_ 2 #[.slice A0_0 l0_0.length c0_0, .slice A0_1 l0_1.length c0_1] 38 ?_; intro gb153 hg w11 hbox hb; have BK153 := A_ hbox; have GW153 := gw_ w hg; have GE153 := GW153; replace HB := b1_ hb; clear hb hbox hg) | ((with_reducible refine gB_ (N := 3) rfl ?_); refine bx_ 3 #[.slice A1_0 l1_0.length c1_0, .slice A1_1 l1_1.length c1_1] 38 ?_; intro gb154 hg w12 hbox hb; have BK154 := A_ hbox; have GW154 := gw_ w hg; have GE154 := GW154; replace HB := b1_ hb; have NB153_154 := gN_ BK153 hg; have NB154_153 := gP_ BK153 hg; replace BK153 := bb_ BK153 hb; clear hb hbox hg; have hnb13 := NB153_154.out; have hnc13 := NB154_153.out; obtain ⟨hcz14_0, hcz14_1, hfz14_0, hfz14_1⟩ := c2_ BK153; obtain ⟨hcz15_0, hcz15_1, hfz15_0, hfz15_1⟩ := c2_ BK154) | ((with_reducible refine gA_ (f := 21) rfl ?_); refine gL_ (some 9) Tryz.func21 #[.slice A0_0 l0_0.length c0_0, .slice A1_0 l1_0.length c1_0] rfl qa_ ?_; (with_reducible refine (Z52.calls k _ _ l0_0 _ _ l1_0 false _ (cb_ HR0_0) HC0_0.out (cb_ HR1_0) HC1_0.out A3.out).mono ?_); rintro e w' ⟨rfl, ⟨nd, rfl⟩⟩; refine ⟨_, rfl, ?_⟩))
  go_ret
  exact ⟨qb_, hB_⟩
def Z59.l0 : Nat → List Int → List Int → Int → Int → Option (Bool)
 | 0, _, _, _, _ => none
 | k + 1, x1, x7, x8, x9 => if x9 < x8 then (if 0 ≤ x9 then (if x9 < (x7.length : Int) then (if x9 < (x1.length : Int) then (if (rd x7 x9) = (rd x1 x9) then (Z59.l0 k x1 x7 x8 (wrap64 (x9 + 1))) else (some (decide ((rd x7 x9) < (rd x1 x9))))) else (none)) else (none)) else (none)) else (some false)
def Z59.f (k : Nat) (l0 : List Int) (l1 : List Int) : Option (Bool) := Z59.l0 k l1 l0 (l0.length : Int) 0
theorem Z59.mono_l : ∀ k, (∀ y0 y1 y2 y3, LeO (Z59.l0 k y0 y1 y2 y3) (Z59.l0 (k + 1) y0 y1 y2 y3))
 | 0 => fun _ _ _ _ r h => by simp [Z59.l0] at h
 | k + 1 => by
  have ih0 := Z59.mono_l k
  ·intro y0 y1 y2 y3
   unfold Z59.l0
   repeat' first|exact ih0 _ _ _ _|exact lo_|refine LeO.ite ?_ ?_|refine LeO.bind ?_ (fun _ => ?_)
theorem Z59.mono : ∀ a0 a1 k, LeO (Z59.f k a0 a1) (Z59.f (k + 1) a0 a1) := by
 intro a0 a1 k
 have ih0 := Z59.mono_l k
 unfold Z59.f
 repeat' first|exact ih0 _ _ _ _|exact lo_|refine LeO.ite ?_ ?_|refine LeO.bind ?_ (fun _ => ?_)
set_option maxHeartbeats 8000000 in
set_option maxRecDepth 100000 in
theorem Z59.calls (k : Nat) (A0 : Option Addr) (c0 : Nat) (l0 : List Int) (A1 : Option Addr) (c1 : Nat) (l1 : List Int) (r : Bool) (w : World) (hr0 : Kd.C (Kd.int .i64) w A0 l0.length l0) (hc0 : l0.length ≤ c0) (hr1 : Kd.C (Kd.int .i64) w A1 l1.length l1) (hc1 : l1.length ≤ c1) (h : Z59.f k l0 l1 = some r) :
  Calls Tryz.prog 77 #[.slice A0 l0.length c0, .slice A1 l1.length c1] w fun e w' => e = .returned (.bool r) ∧ Drawn0 w w' := by
 have HR0 := A_ hr0
 have HC0 := A_ hc0
 clear hr0 hc0
 have HR1 := A_ hr1
 have HC1 := A_ hc1
 clear hr1 hc1
 have H := h
 unfold Z59.f at H
 clear h
 have H' := A_ H
 clear H
 go_enter Tryz.func77, Tryz.ntmps77
 go_wp2
 go_loopg [9] k (fun kq v9 w' => ∃ (x9_1 : Int), v9 = .int .i64 x9_1 ∧ Aside0 (Z59.l0 kq l1 l0 (l0.length : Int) x9_1 = some r) ∧ Aside0 (kq ≤ k) ∧ Drawn0 w w')
 case atStart => exact ⟨(0), qc_, H', ⟨nA_ _⟩, by repeat (first | exact Drawn0.refl _ | apply Drawn0.step)⟩
 case round =>
  clear H'
  obtain ⟨x9_1, rfl, HA, HK1, ⟨m1, rfl⟩⟩ := hrel
  cases gk with
  | zero => exact absurd HA.out (by simp [Z59.l0])
  | succ k1 =>
   have H := HA.out
   clear HA
   simp only [Z59.l0] at H
   by_cases c3 : x9_1 < (l0.length : Int)
   ·rw [if_pos c3] at H
    have c3b0 := oC_ c3
    clear c3
    have c4 := cp_ H
    replace H := ca_ H
    have c4b0 := oC_ c4
    clear c4
    have c5 := cp_ H
    replace H := ca_ H
    have c5b0 := oC_ c5
    clear c5
    have c6 := cp_ H
    replace H := ca_ H
    have c6b0 := oC_ c6
    clear c6
    by_cases c7 : (rd l0 x9_1) = (rd l1 x9_1)
    ·rw [if_pos c7] at H
     have c7b0 : ((rd l0 x9_1) == (rd l1 x9_1)) = true := beq_iff_eq.mpr c7
     have c7b1 : ((rd l0 x9_1) != (rd l1 x9_1)) = false := bne_eq_false_iff_eq.mpr c7
     clear c7
     have H' := A_ H
     clear H
     have p157 : 0 ≤ (x9_1 : Int) := oB_ qe_
     have q157 : x9_1 < (l0.length : Int) := oB_ qe_
     obtain ⟨ad157, e157, hx157_0⟩ := Kd.at_int HR0.out x9_1 p157 q157
     cases e157
     replace p157 := eq_true p157
     replace q157 := eq_true q157
     have p158 : 0 ≤ (x9_1 : Int) := oB_ qe_
     have q158 : x9_1 < (l1.length : Int) := oB_ qe_
     obtain ⟨ad158, e158, hx158_0⟩ := Kd.at_int HR1.out x9_1 p158 q158
     cases e158
     replace p158 := eq_true p158
     replace q158 := eq_true q158
     go_wp2
     go_roundg k1
     case measure => have := HK1.out; omega
     case rel => exact ⟨(wrap64 (x9_1 + 1)), qc_, H', ⟨by have := HK1.out; omega⟩, by repeat (first | exact Drawn0.refl _ | apply Drawn0.step)⟩
    ·rw [if_neg c7] at H
     have c7b0 : ((rd l0 x9_1) == (rd l1 x9_1)) = false := beq_eq_false_iff_ne.mpr c7
     have c7b1 : ((rd l0 x9_1) != (rd l1 x9_1)) = true := bne_iff_ne.mpr c7
     obtain rfl := Option.some.inj H
     have p157 : 0 ≤ (x9_1 : Int) := oB_ qe_
     have q157 : x9_1 < (l0.length : Int) := oB_ qe_
     obtain ⟨ad157, e157, hx157_0⟩ := Kd.at_int HR0.out x9_1 p157 q157
     cases e157
     replace p157 := eq_true p157
     replace q157 := eq_true q157
     have p158 : 0 ≤ (x9_1 : Int) := oB_ qe_
     have q158 : x9_1 < (l1.length : Int) := oB_ qe_
     obtain ⟨ad158, e158, hx158_0⟩ := Kd.at_int HR1.out x9_1 p158 q158
     cases e158
     replace p158 := eq_true p158
     replace q158 := eq_true q158
     have p159 : 0 ≤ (x9_1 : Int) := oB_ qe_
     have q159 : x9_1 < (l1.length : Int) := oB_ qe_
     obtain ⟨ad159, e159, hx159_0⟩ := Kd.at_int HR1.out x9_1 p159 q159
     obtain rfl : ad158 = ad159 := (by injection e159)
     replace p159 := eq_true p159
     replace q159 := eq_true q159
     go_wp2
     go_ret
     exact ⟨qc_, by repeat (first | exact Drawn0.refl _ | apply Drawn0.step)⟩
   ·rw [if_neg c3] at H
    have c3b0 := oD_ c3
    clear c3
    obtain rfl := Option.some.inj H
    go_wp2
    go_ret
    exact ⟨qc_, by repeat (first | exact Drawn0.refl _ | apply Drawn0.step)⟩
def Z36.f (k : Nat) (l0_0 : List Int) (l0_1 : List Int) (l1_0 : List Int) (l1_1 : List Int) : Option (Bool) := (Z52.f k l0_0 l1_0).bind fun t162 => (if t162 = true then ((Z59.f k l0_1 l1_1).bind fun t163 => (some t163)) else ((Z59.f k l0_0 l1_0).bind fun t164 => (some t164)))
theorem Z36.mono : ∀ a0 a1 a2 a3 k, LeO (Z36.f k a0 a1 a2 a3) (Z36.f (k + 1) a0 a1 a2 a3) := by
 intro a0 a1 a2 a3 k
 unfold Z36.f
 repeat' first|exact Z52.mono _ _ _|exact Z59.mono _ _ _|exact lo_|refine LeO.ite ?_ ?_|refine LeO.bind ?_ (fun _ => ?_)
set_option maxHeartbeats 8000000 in
set_option maxRecDepth 100000 in
theorem Z36.calls (k : Nat) (A0_0 : Option Addr) (c0_0 : Nat) (l0_0 : List Int) (A0_1 : Option Addr) (c0_1 : Nat) (l0_1 : List Int) (A1_0 : Option Addr) (c1_0 : Nat) (l1_0 : List Int) (A1_1 : Option Addr) (c1_1 : Nat) (l1_1 : List Int) (r : Bool) (w : World) (hr0_0 : Kd.C (Kd.int .i64) w A0_0 l0_0.length l0_0) (hc0_0 : l0_0.length ≤ c0_0) (hr0_1 : Kd.C (Kd.int .i64) w A0_1 l0_1.length l0_1) (hc0_1 : l0_1.length ≤ c0_1) (hr1_0 : Kd.C (Kd.int .i64) w A1_0 l1_0.length l1_0) (hc1_0 : l1_0.length ≤ c1_0) (hr1_1 : Kd.C (Kd.int .i64) w A1_1 l1_1.length l1_1) (hc1_1 : l1_1.length ≤ c1_1) (h : Z36.f k l0_0 l0_1 l1_0 l1_1 = some r) :
  Calls Tryz.prog 48 #[.agg #[.slice A0_0 l0_0.length c0_0, .slice A0_1 l0_1.length c0_1], .agg #[.slice A1_0 l1_0.length c1_0, .slice A1_1 l1_1.length c1_1]] w fun e w' => e = .returned (.bool r) ∧ Below w.heap.size w w' := by
 have hu38 := Tryz.underlying38
 have HR0_0 := A_ hr0_0
 have HC0_0 := A_ hc0_0
 clear hr0_0 hc0_0
 have HR0_1 := A_ hr0_1
 have HC0_1 := A_ hc0_1
 clear hr0_1 hc0_1
 have HR1_0 := A_ hr1_0
 have HC1_0 := A_ hc1_0
 clear hr1_0 hc1_0
 have HR1_1 := A_ hr1_1
 have HC1_1 := A_ hc1_1
 clear hr1_1 hc1_1
 have HB := A_ (Below.refl w.heap.size w)
 have H := h
 unfold Z36.f at H
 clear h
 obtain ⟨t162, A3, H⟩ := bi_ H
 by_cases c4 : t162 = true
 ·subst c4
  rw [if_pos rfl] at H
  obtain ⟨t163, A5, H⟩ := bi_ H
  obtain rfl := Option.some.inj H
  go_enter Tryz.func48, Tryz.ntmps48
  go_wp2_with (first | ((with_reducible refine gB_ (N := 2) rfl ?_); refine bx_ 2 #[.slice A0_0 l0_0.length c0_0, .slice A0_1 l0_1.length c0_1] 38 ?_; intro gb160 hg w6 hbox hb; have BK160 := A_ hbox; have GW160 := gw_ w hg; have GE160 := GW160; replace HB := b1_ hb; clear hb hbox hg) | ((with_reducible refine gB_ (N := 3) rfl ?_); refine bx_ 3 #[.slice A1_0 l1_0.length c1_0, .slice A1_1 l1_1.length c1_1] 38 ?_; intro gb161 hg w7 hbox hb; have BK161 := A_ hbox; have GW161 := gw_ w hg; have GE161 := GW161; replace HB := b1_ hb; have NB160_161 := gN_ BK160 hg; have NB161_160 := gP_ BK160 hg; replace BK160 := bb_ BK160 hb; clear hb hbox hg; have hnb8 := NB160_161.out; have hnc8 := NB161_160.out; obtain ⟨hcz9_0, hcz9_1, hfz9_0, hfz9_1⟩ := c2_ BK160; obtain ⟨hcz10_0, hcz10_1, hfz10_0, hfz10_1⟩ := c2_ BK161) | ((with_reducible refine gA_ (f := 21) rfl ?_); refine gL_ (some 9) Tryz.func21 #[.slice A0_0 l0_0.length c0_0, .slice A1_0 l1_0.length c1_0] rfl qa_ ?_; (with_reducible refine (Z52.calls k _ _ l0_0 _ _ l1_0 true _ (cb_ HR0_0) HC0_0.out (cb_ HR1_0) HC1_0.out A3.out).mono ?_); rintro e w' ⟨rfl, ⟨nd, rfl⟩⟩; refine ⟨_, rfl, ?_⟩) | ((with_reducible refine gA_ (f := 77) rfl ?_); refine gL_ (some 14) Tryz.func77 #[.slice A0_1 l0_1.length c0_1, .slice A1_1 l1_1.length c1_1] rfl qa_ ?_; (with_reducible refine (Z59.calls k _ _ l0_1 _ _ l1_1 t163 _ (cw_ (cD_ HR0_1.out hB_)) HC0_1.out (cw_ (cD_ HR1_1.out hB_)) HC1_1.out A5.out).mono ?_); rintro e w' ⟨rfl, ⟨nd, rfl⟩⟩; refine ⟨_, rfl, ?_⟩))
  go_ret
  exact ⟨qb_, hB_⟩
 ·replace c4 := Bool.eq_false_iff.mpr c4
  subst c4
  have H1 : ((Z59.f k l0_0 l1_0).bind fun t164 => (some t164)) = some r := by rw [if_neg (show ¬ (false = true) by decide)] at H; exact H
  clear H
  have H := H1
  clear H1
  obtain ⟨t164, A11, H⟩ := bi_ H
  obtain rfl := Option.some.inj H
  go_enter Tryz.func48, Tryz.ntmps48
  go_wp2_with (first | ((with_reducible refine gB_ (N := 2) rfl ?_); refine bx_ 2 #[.slice A0_0 l0_0.length c0_0, .slice A0_1 l0_1.length c0_1] 38 ?_; intro gb160 hg w12 hbox hb; have BK160 := A_ hbox; have GW160 := gw_ w hg; have GE160 := GW160; replace HB := b1_ hb; clear hb hbox hg) | ((with_reducible refine gB_ (N := 3) rfl ?_); refine bx_ 3 #[.slice A1_0 l1_0.length c1_0, .slice A1_1 l1_1.length c1_1] 38 ?_; intro gb161 hg w13 hbox hb; have BK161 := A_ hbox; have GW161 := gw_ w hg; have GE161 := GW161; replace HB := b1_ hb; have NB160_161 := gN_ BK160 hg; have NB161_160 := gP_ BK160 hg; replace BK160 := bb_ BK160 hb; clear hb hbox hg; have hnb14 := NB160_161.out; have hnc14 := NB161_160.out; obtain ⟨hcz15_0, hcz15_1, hfz15_0, hfz15_1⟩ := c2_ BK160; obtain ⟨hcz16_0, hcz16_1, hfz16_0, hfz16_1⟩ := c2_ BK161) | ((with_reducible refine gA_ (f := 21) rfl ?_); refine gL_ (some 9) Tryz.func21 #[.slice A0_0 l0_0.length c0_0, .slice A1_0 l1_0.length c1_0] rfl qa_ ?_; (with_reducible refine (Z52.calls k _ _ l0_0 _ _ l1_0 false _ (cb_ HR0_0) HC0_0.out (cb_ HR1_0) HC1_0.out A3.out).mono ?_); rintro e w' ⟨rfl, ⟨nd, rfl⟩⟩; refine ⟨_, rfl, ?_⟩) | ((with_reducible refine gA_ (f := 77) rfl ?_); refine gL_ (some 19) Tryz.func77 #[.slice A0_0 l0_0.length c0_0, .slice A1_0 l1_0.length c1_0] rfl qa_ ?_; (with_reducible refine (Z59.calls k _ _ l0_0 _ _ l1_0 t164 _ (cw_ (cD_ HR0_0.out hB_)) HC0_0.out (cw_ (cD_ HR1_0.out hB_)) HC1_0.out A11.out).mono ?_); rintro e w' ⟨rfl, ⟨nd, rfl⟩⟩; refine ⟨_, rfl, ?_⟩))
  go_ret
  exact ⟨qb_, hB_⟩
def Z39.l0 : Nat → List (S38) → Bool → List (S38) → Int → Int → List Int → List Int → Option ((List (S38)))
 | 0, _, _, _, _, _, _, _ => none
 | k + 1, x5, x6, x10, x11, x12, x166000, x166001 => if x12 < x11 then (if 0 ≤ x12 then (if x12 < (x10.length : Int) then ((Z17.f k ((rd_T38 x10 x12).f0) ((rd_T38 x10 x12).f1) x166000 x166001).bind fun t174 => (if t174 = true then (if x5.length < 2932031007402 then (Z39.l0 k (x5 ++ [(⟨(rd_T38 x10 x12).f0, (rd_T38 x10 x12).f1⟩ : S38)]) true x10 x11 (wrap64 (x12 + 1)) x166000 x166001) else (none)) else (if x6 = true then (if x5.length < 2932031007402 then (Z39.l0 k (x5 ++ [(⟨(rd_T38 x10 x12).f0, (rd_T38 x10 x12).f1⟩ : S38)]) x6 x10 x11 (wrap64 (x12 + 1)) x166000 x166001) else (none)) else ((Z36.f k x166000 x166001 ((rd_T38 x10 x12).f0) ((rd_T38 x10 x12).f1)).bind fun t181 => (if t181 = true then (if x5.length < 2932031007402 then ((some (x5 ++ [(⟨x166000, x166001⟩ : S38)] : List (S38))).bind fun y182 => (if y182.length < 2932031007402 then (Z39.l0 k (y182 ++ [(⟨(rd_T38 x10 x12).f0, (rd_T38 x10 x12).f1⟩ : S38)]) true x10 x11 (wrap64 (x12 + 1)) x166000 x166001) else (none))) else (none)) else (if x5.length < 2932031007402 then (Z39.l0 k (x5 ++ [(⟨(rd_T38 x10 x12).f0, (rd_T38 x10 x12).f1⟩ : S38)]) x6 x10 x11 (wrap64 (x12 + 1)) x166000 x166001) else (none))))))) else (none)) else (none)) else (if x6 = true then (some x5) else (if x5.length < 2932031007402 then (some (x5 ++ [(⟨x166000, x166001⟩ : S38)])) else (none)))
def Z39.f (k : Nat) (l0 : List (S38)) (l1_0 : List Int) (l1_1 : List Int) : Option ((List (S38))) := Z39.l0 k (([] : List (S38))) false l0 (l0.length : Int) 0 l1_0 l1_1
theorem Z39.mono_l : ∀ k, (∀ y0 y1 y2 y3 y4 y5 y6, LeO (Z39.l0 k y0 y1 y2 y3 y4 y5 y6) (Z39.l0 (k + 1) y0 y1 y2 y3 y4 y5 y6))
 | 0 => fun _ _ _ _ _ _ _ r h => by simp [Z39.l0] at h
 | k + 1 => by
  have ih0 := Z39.mono_l k
  ·intro y0 y1 y2 y3 y4 y5 y6
   unfold Z39.l0
   repeat' first|exact ih0 _ _ _ _ _ _ _|exact Z17.mono _ _ _ _ _|exact Z36.mono _ _ _ _ _|exact lo_|refine LeO.ite ?_ ?_|refine LeO.bind ?_ (fun _ => ?_)
theorem Z39.mono : ∀ a0 a1 a2 k, LeO (Z39.f k a0 a1 a2) (Z39.f (k + 1) a0 a1 a2) := by
 intro a0 a1 a2 k
 have ih0 := Z39.mono_l k
 unfold Z39.f
 repeat' first|exact ih0 _ _ _ _ _ _ _|exact Z17.mono _ _ _ _ _|exact Z36.mono _ _ _ _ _|exact lo_|refine LeO.ite ?_ ?_|refine LeO.bind ?_ (fun _ => ?_)
set_option maxHeartbeats 8000000 in
set_option maxRecDepth 100000 in
theorem Z39.calls (k : Nat) (P0_ : Nat → Prop) (A0 : Option Addr) (c0 : Nat) (l0 : List (S38)) (P1_0_ : Nat → Prop) (A1_0 : Option Addr) (c1_0 : Nat) (l1_0 : List Int) (P1_1_ : Nat → Prop) (A1_1 : Option Addr) (c1_1 : Nat) (l1_1 : List Int) (r : List (S38)) (w : World) (hs0 : Kd.V k38 38 w w.heap.size (fun k_ => P0_ k_) (.slice A0 l0.length c0) l0) (hs1_0 : Kd.V (Kd.int .i64) 3 w w.heap.size (fun k_ => P1_0_ k_) (.slice A1_0 l1_0.length c1_0) l1_0) (hs1_1 : Kd.V (Kd.int .i64) 3 w w.heap.size (fun k_ => P1_1_ k_) (.slice A1_1 l1_1.length c1_1) l1_1) (h : Z39.f k l0 l1_0 l1_1 = some r) :
  Calls Tryz.prog 34 #[.slice A0 l0.length c0, .agg #[.slice A1_0 l1_0.length c1_0, .slice A1_1 l1_1.length c1_1]] w fun e w' => ∃ v0_ : Value, e = .returned (v0_) ∧ Kd.N k38 38 w' w.heap.size (fun k_ => ((P0_ k_ ∨ P1_0_ k_ ∨ P1_1_ k_) ∨ w.heap.size ≤ k_)) v0_ r ∧ Below w.heap.size w w' := by
 have hu38 := Tryz.underlying38
 have HO0 := A_ (show Kd.V k38 38 w w.heap.size (fun k_ => ((P0_ k_ ∨ P1_0_ k_ ∨ P1_1_ k_) ∨ w.heap.size ≤ k_)) (.slice A0 l0.length c0) l0 from Kd.V_mono hs0 (fun k_ hk => .inl (.inl hk)))
 have HO1_0 := A_ (show Kd.V (Kd.int .i64) 3 w w.heap.size (fun k_ => ((P0_ k_ ∨ P1_0_ k_ ∨ P1_1_ k_) ∨ w.heap.size ≤ k_)) (.slice A1_0 l1_0.length c1_0) l1_0 from Kd.V_mono hs1_0 (fun k_ hk => .inl (.inr (.inl hk))))
 have HO1_1 := A_ (show Kd.V (Kd.int .i64) 3 w w.heap.size (fun k_ => ((P0_ k_ ∨ P1_0_ k_ ∨ P1_1_ k_) ∨ w.heap.size ≤ k_)) (.slice A1_1 l1_1.length c1_1) l1_1 from Kd.V_mono hs1_1 (fun k_ hk => .inl (.inr (.inr hk))))
 have HB := A_ (Below.refl w.heap.size w)
 have H := h
 unfold Z39.f at H
 clear h
 obtain ⟨y166, hy166⟩ : ∃ y_ : List (S38), y_ = (([] : List (S38))) := ⟨_, rfl⟩
 replace H : (Z39.l0 k y166 false l0 (l0.length : Int) 0 l1_0 l1_1) = some r := by first | (rw [hy166]; exact H) | exact H
 have Ny166 := A_ hy166
 clear hy166
 have H' := A_ H
 clear H
 go_enter Tryz.func34, Tryz.ntmps34
 go_wp2_with (first | ((with_reducible refine gB_ (N := 3) rfl ?_); refine bx_ 3 #[.slice A1_0 l1_0.length c1_0, .slice A1_1 l1_1.length c1_1] 38 ?_; intro gb165 hg w3 hbox hb; replace HO0 := A_ (Kd.V_below (Kd.V_elderB (by (with_reducible repeat (first | apply Kd.V_alloc | apply Kd.V_drewN | apply Kd.V_drew)); exact HO0.out) gb165 (Nat.le_of_eq hg.symm)) hb); replace HO1_0 := A_ (Kd.V_below (Kd.V_elderB (by (with_reducible repeat (first | apply Kd.V_alloc | apply Kd.V_drewN | apply Kd.V_drew)); exact HO1_0.out) gb165 (Nat.le_of_eq hg.symm)) hb); replace HO1_1 := A_ (Kd.V_below (Kd.V_elderB (by (with_reducible repeat (first | apply Kd.V_alloc | apply Kd.V_drewN | apply Kd.V_drew)); exact HO1_1.out) gb165 (Nat.le_of_eq hg.symm)) hb); have BK165 := A_ hbox; have GW165 := gw_ w hg; have GE165 := GW165; replace HB := b1_ hb; clear hb hbox hg) | ((with_reducible refine gB_ (N := 9) rfl ?_); refine Kd.N_lit k38 _ 38 ?hg (N' := 9) ?hd (xs := ([] : List (S38))) (inner := []) (ok := (fun k_ => ((P0_ k_ ∨ P1_0_ k_ ∨ P1_1_ k_) ∨ w.heap.size ≤ k_) ∧ k_ ≠ gb165)) (okp := (fun k_ => ((P0_ k_ ∨ P1_0_ k_ ∨ P1_1_ k_) ∨ w.heap.size ≤ k_) ∧ k_ ≠ gb165)) ?hr ?hp (fun _ hk => hk) ((show ∀ k_, w3.heap.size ≤ k_ → (fun k_ => ((P0_ k_ ∨ P1_0_ k_ ∨ P1_1_ k_) ∨ w.heap.size ≤ k_) ∧ k_ ≠ gb165) k_ from fun k_ hk => ⟨(.inr (Nat.le_trans (bF_ hB_) hk)), Kd.freshB (kk_ BK165) k_ hk⟩) _ (nA_ _)) (Below.refl _ _) (nA_ _) (by simp) ?_; (case hd => rfl); (case hg => rfl); (case hr => first | (go_simp; done) | (go_simp; rfl)); (case hp => exact (Reps.none _ _)); intro v167 w4 ho5 hb hg_ hnew_; clear hg_ hnew_; (first | rw [← Ny166.out] at ho5 | (simp only [Int.reduceToNat] at ho5; rw [← Ny166.out] at ho5)); replace HO0 := A_ (Kd.V_elder' (by (with_reducible repeat (first | apply Kd.V_alloc | apply Kd.V_drewN | apply Kd.V_drew)); exact HO0.out) (Kd.N_base ho5) hb); replace HO1_0 := A_ (Kd.V_elder' (by (with_reducible repeat (first | apply Kd.V_alloc | apply Kd.V_drewN | apply Kd.V_drew)); exact HO1_0.out) (Kd.N_base ho5) hb); replace HO1_1 := A_ (Kd.V_elder' (by (with_reducible repeat (first | apply Kd.V_alloc | apply Kd.V_drewN | apply Kd.V_drew)); exact HO1_1.out) (Kd.N_base ho5) hb); have HO168 := A_ (Kd.N_lower ho5 (bF_ hB_)); replace BK165 := bb_ BK165 hb; replace HB := b1_ hb; clear hb ho5))
 go_loopg [5, 6, 12] k (fun kq v5 v6 v12 w' => ∃ (x5_1 : List (S38)) (x6_1 : Bool) (x12_1 : Int), v6 = .bool x6_1 ∧ v12 = .int .i64 x12_1 ∧ Aside0 (Z39.l0 kq x5_1 x6_1 l0 (l0.length : Int) x12_1 l1_0 l1_1 = some r) ∧ Aside0 (kq ≤ k) ∧ Aside0 (Kd.N k38 38 w' w.heap.size (fun k_ => ((P0_ k_ ∨ P1_0_ k_ ∨ P1_1_ k_) ∨ w.heap.size ≤ k_) ∧ k_ ≠ gb165) v5 x5_1) ∧ Aside0 (Kd.V k38 38 w' w.heap.size (fun k_ => ((P0_ k_ ∨ P1_0_ k_ ∨ P1_1_ k_) ∨ w.heap.size ≤ k_) ∧ some k_ ≠ (v5 : Value).ownBlock ∧ k_ ≠ gb165) (.slice A0 l0.length c0) l0) ∧ Aside0 (Kd.V (Kd.int .i64) 3 w' w.heap.size (fun k_ => ((P0_ k_ ∨ P1_0_ k_ ∨ P1_1_ k_) ∨ w.heap.size ≤ k_) ∧ some k_ ≠ (v5 : Value).ownBlock ∧ k_ ≠ gb165) (.slice A1_0 l1_0.length c1_0) l1_0) ∧ Aside0 (Kd.V (Kd.int .i64) 3 w' w.heap.size (fun k_ => ((P0_ k_ ∨ P1_0_ k_ ∨ P1_1_ k_) ∨ w.heap.size ≤ k_) ∧ some k_ ≠ (v5 : Value).ownBlock ∧ k_ ≠ gb165) (.slice A1_1 l1_1.length c1_1) l1_1) ∧ Aside0 (w'.heap[gb165]? = some (.cells #[(.slice A1_0 l1_0.length c1_0), (.slice A1_1 l1_1.length c1_1)] 38 (0, 0))) ∧ Aside0 (Below w.heap.size w w'))
 case atStart => exact ⟨(y166), (false), (0), qc_, qc_, H', ⟨nA_ _⟩, ⟨by (with_reducible repeat (first | apply Kd.N_alloc | apply Kd.N_drewN | apply Kd.N_drew)); exact HO168.out⟩, ⟨by (with_reducible repeat (first | apply Kd.V_alloc | apply Kd.V_drewN | apply Kd.V_drew)); exact Kd.V_mono HO0.out (fun _ hk => ⟨hk.1.1, ⟨hk.2, hk.1.2⟩⟩)⟩, ⟨by (with_reducible repeat (first | apply Kd.V_alloc | apply Kd.V_drewN | apply Kd.V_drew)); exact Kd.V_mono HO1_0.out (fun _ hk => ⟨hk.1.1, ⟨hk.2, hk.1.2⟩⟩)⟩, ⟨by (with_reducible repeat (first | apply Kd.V_alloc | apply Kd.V_drewN | apply Kd.V_drew)); exact Kd.V_mono HO1_1.out (fun _ hk => ⟨hk.1.1, ⟨hk.2, hk.1.2⟩⟩)⟩, ⟨(kk_ BK165)⟩, ⟨hB_⟩⟩
 case round =>
  clear H'
  obtain ⟨x5_1, x6_1, x12_1, rfl, rfl, HA, HK1, HO_5, HO_10, HO_166000, HO_166001, BK165, HB⟩ := hrel
  cases gk with
  | zero => exact absurd HA.out (by simp [Z39.l0])
  | succ k1 =>
   have H := HA.out
   clear HA
   simp only [Z39.l0] at H
   by_cases c6 : x12_1 < (l0.length : Int)
   ·rw [if_pos c6] at H
    have c6b0 := oC_ c6
    clear c6
    have c7 := cp_ H
    replace H := ca_ H
    have c7b0 := oC_ c7
    clear c7
    have c8 := cp_ H
    replace H := ca_ H
    have c8b0 := oC_ c8
    clear c8
    obtain ⟨t174, A9, H⟩ := bi_ H
    by_cases c10 : t174 = true
    ·subst c10
     rw [if_pos rfl] at H
     have c11 := cp_ H
     replace H := ca_ H
     have LMc11 := A_ c11
     clear c11
     obtain ⟨y175, hy175⟩ : ∃ y_ : List (S38), y_ = (x5_1 ++ [(⟨(rd_T38 l0 x12_1).f0, (rd_T38 l0 x12_1).f1⟩ : S38)]) := ⟨_, rfl⟩
     replace H : (Z39.l0 k1 y175 true l0 (l0.length : Int) (wrap64 (x12_1 + 1)) l1_0 l1_1) = some r := by first | (rw [hy175]; exact H) | exact H
     have Ny175 := A_ hy175
     clear hy175
     have H' := A_ H
     clear H
     have p172 : 0 ≤ (x12_1 : Int) := oB_ qe_
     have q172 : x12_1 < (l0.length : Int) := oB_ qe_
     obtain ⟨ad172, A172_0, c172_0, A172_1, c172_1, e172, hx172_0, hx172_1, hl172_0, hi172_0, hl172_1, hi172_1⟩ := at_T38 (Kd.V_reads' HO_10.out).2.2 x12_1 p172 q172
     cases e172
     obtain ⟨ce172, hce172, hMe172, hcc172⟩ := Kd.V_get HO_10.out z38 x12_1 p172 (by first | exact q172 | exact oB_ qe_ | (have e_ := (Kd.V_reads' HO_10.out).1; omega))
     obtain ⟨ua172_0, uc172_0, ua172_1, uc172_1, rfl, ul172_0, ge172_0, ul172_1, ge172_1⟩ := k38_openF hMe172
     have hv172_0 := hcc172 0 _ rfl
     rw [Nat.add_zero] at hv172_0
     replace hv172_0 := Option.some.inj (hv172_0.symm.trans hx172_0)
     injection hv172_0 with hva_ hvn_ hvc_
     rw [hva_] at ge172_0
     rw [hvc_] at ul172_0
     have HL172_0 := A_ (show Kd.V (Kd.int .i64) 3 _ w.heap.size _ _ ((rd_T38 l0 x12_1).f0) from Kd.V_mk ul172_0 ge172_0)
     clear hva_ hvn_ hvc_ ge172_0 ul172_0
     have hv172_1 := hcc172 1 _ rfl
     rw [add_field _ _ 1 (by omega)] at hv172_1
     replace hv172_1 := Option.some.inj (hv172_1.symm.trans hx172_1)
     injection hv172_1 with hva_ hvn_ hvc_
     rw [hva_] at ge172_1
     rw [hvc_] at ul172_1
     have HL172_1 := A_ (show Kd.V (Kd.int .i64) 3 _ w.heap.size _ _ ((rd_T38 l0 x12_1).f1) from Kd.V_mk ul172_1 ge172_1)
     clear hva_ hvn_ hvc_ ge172_1 ul172_1
     clear hcc172 hce172
     have HR172_0 := A_ hi172_0
     have HC172_0 := A_ hl172_0
     clear hi172_0 hl172_0
     have HR172_1 := A_ hi172_1
     have HC172_1 := A_ hl172_1
     clear hi172_1 hl172_1
     replace p172 := eq_true p172
     replace q172 := eq_true q172
     go_wp2_with (first | ((with_reducible refine gB_ (N := 8) rfl ?_); refine bx_ 8 #[.slice none 0 0, .slice none 0 0] 38 ?_; intro gb173 hg w12 hbox hb; replace HO_5 := A_ (Kd.N_below (Kd.N_elderB (by (with_reducible repeat (first | apply Kd.N_alloc | apply Kd.N_drewN | apply Kd.N_drew)); exact HO_5.out) gb173 (Nat.le_of_eq hg.symm)) hb); replace HO_10 := A_ (Kd.V_below (Kd.V_elderB (by (with_reducible repeat (first | apply Kd.V_alloc | apply Kd.V_drewN | apply Kd.V_drew)); exact HO_10.out) gb173 (Nat.le_of_eq hg.symm)) hb); replace HO_166000 := A_ (Kd.V_below (Kd.V_elderB (by (with_reducible repeat (first | apply Kd.V_alloc | apply Kd.V_drewN | apply Kd.V_drew)); exact HO_166000.out) gb173 (Nat.le_of_eq hg.symm)) hb); replace HO_166001 := A_ (Kd.V_below (Kd.V_elderB (by (with_reducible repeat (first | apply Kd.V_alloc | apply Kd.V_drewN | apply Kd.V_drew)); exact HO_166001.out) gb173 (Nat.le_of_eq hg.symm)) hb); replace HL172_0 := A_ (Kd.V_below (Kd.V_elderB (by (with_reducible repeat (first | apply Kd.V_alloc | apply Kd.V_drewN | apply Kd.V_drew)); exact HL172_0.out) gb173 (Nat.le_of_eq hg.symm)) hb); replace HL172_1 := A_ (Kd.V_below (Kd.V_elderB (by (with_reducible repeat (first | apply Kd.V_alloc | apply Kd.V_drewN | apply Kd.V_drew)); exact HL172_1.out) gb173 (Nat.le_of_eq hg.symm)) hb); replace HR172_0 := A_ (cD_ (by repeat (first | (with_reducible exact HR172_0.out) | (with_reducible refine cA_ ?_ _) | (with_reducible refine cB_ ?_ _) | (with_reducible refine cC_ ?_) | exact HR172_0.out)) hb); replace HR172_1 := A_ (cD_ (by repeat (first | (with_reducible exact HR172_1.out) | (with_reducible refine cA_ ?_ _) | (with_reducible refine cB_ ?_ _) | (with_reducible refine cC_ ?_) | exact HR172_1.out)) hb); have BK173 := A_ hbox; have GW173 := gw_ w hg; have GE173 := GW173; replace HB := b1_ hb; have NB165_173 := gN_ BK165 hg; have NB173_165 := gP_ BK165 hg; replace BK165 := bb_ BK165 hb; clear hb hbox hg; have hnb13 := NB173_165.out; have hnc13 := NB165_173.out; obtain ⟨hcz14_0, hcz14_1, hfz14_0, hfz14_1⟩ := c2_ BK173; obtain ⟨hcz15_0, hcz15_1, hfz15_0, hfz15_1⟩ := c2_ BK165) | ((with_reducible refine gA_ (f := 47) rfl ?_); refine gL_ (some 18) Tryz.func47 #[.agg #[.slice A172_0 ((rd_T38 l0 x12_1).f0).length c172_0, .slice A172_1 ((rd_T38 l0 x12_1).f1).length c172_1], .agg #[.slice A1_0 l1_0.length c1_0, .slice A1_1 l1_1.length c1_1]] rfl qa_ ?_; (with_reducible refine (Z17.calls k1 _ _ ((rd_T38 l0 x12_1).f0) _ _ ((rd_T38 l0 x12_1).f1) _ _ l1_0 _ _ l1_1 true _ ?side1 ?side2 ?side3 ?side4 ?side5 ?side6 ?side7 ?side8 A9.out).mono ?_); (case side1 => repeat (first | exact ((Kd.V_reads' (by (with_reducible repeat (first | apply Kd.V_alloc | apply Kd.V_drewN | apply Kd.V_drew)); exact (Kd.V_mono (Kd.V_far (p := ⟨gb173, 1, none⟩) (Kd.V_far (p := ⟨gb173, 0, none⟩) (Kd.V_mono HL172_0.out (fun k_ hk => (⟨hk, hk.2⟩ : _ ∧ k_ ≠ gb173))) (fun _ hk => hk.2) (.slice A172_0 ((rd_T38 l0 x12_1).f0).length c172_0)) (fun _ hk => hk.2) (.slice A172_1 ((rd_T38 l0 x12_1).f1).length c172_1)) (fun _ h_ => h_.1)))).2.2) | (with_reducible first | refine cA_ ?_ _ | refine cB_ ?_ _ | refine cC_ ?_))); (case side2 => exact HC172_0.out); (case side3 => repeat (first | exact ((Kd.V_reads' (by (with_reducible repeat (first | apply Kd.V_alloc | apply Kd.V_drewN | apply Kd.V_drew)); exact (Kd.V_mono (Kd.V_far (p := ⟨gb173, 1, none⟩) (Kd.V_far (p := ⟨gb173, 0, none⟩) (Kd.V_mono HL172_1.out (fun k_ hk => (⟨hk, hk.2⟩ : _ ∧ k_ ≠ gb173))) (fun _ hk => hk.2) (.slice A172_0 ((rd_T38 l0 x12_1).f0).length c172_0)) (fun _ hk => hk.2) (.slice A172_1 ((rd_T38 l0 x12_1).f1).length c172_1)) (fun _ h_ => h_.1)))).2.2) | (with_reducible first | refine cA_ ?_ _ | refine cB_ ?_ _ | refine cC_ ?_))); (case side4 => exact HC172_1.out); (case side5 => refine (Kd.V_reads' (e := 3) (base := w.heap.size) (ok := fun k_ => ((((P0_ k_ ∨ P1_0_ k_ ∨ P1_1_ k_) ∨ w.heap.size ≤ k_) ∧ (some k_ ≠ (u5 : Value).ownBlock ∧ k_ ≠ gb165)) ∧ k_ ≠ gb173)) (n := l1_0.length) (c := c1_0) ?_).2.2; exact (by (with_reducible repeat (first | apply Kd.V_alloc | apply Kd.V_drewN | apply Kd.V_drew)); exact (Kd.V_mono (Kd.V_far (p := ⟨gb173, 1, none⟩) (Kd.V_far (p := ⟨gb173, 0, none⟩) (Kd.V_mono HO_166000.out (fun k_ hk => (⟨hk, hk.2⟩ : _ ∧ k_ ≠ gb173))) (fun _ hk => hk.2) (.slice A172_0 ((rd_T38 l0 x12_1).f0).length c172_0)) (fun _ hk => hk.2) (.slice A172_1 ((rd_T38 l0 x12_1).f1).length c172_1)) (fun _ h_ => h_.1)))); (case side6 => exact (Kd.V_reads' HO_166000.out).2.1); (case side7 => refine (Kd.V_reads' (e := 3) (base := w.heap.size) (ok := fun k_ => ((((P0_ k_ ∨ P1_0_ k_ ∨ P1_1_ k_) ∨ w.heap.size ≤ k_) ∧ (some k_ ≠ (u5 : Value).ownBlock ∧ k_ ≠ gb165)) ∧ k_ ≠ gb173)) (n := l1_1.length) (c := c1_1) ?_).2.2; exact (by (with_reducible repeat (first | apply Kd.V_alloc | apply Kd.V_drewN | apply Kd.V_drew)); exact (Kd.V_mono (Kd.V_far (p := ⟨gb173, 1, none⟩) (Kd.V_far (p := ⟨gb173, 0, none⟩) (Kd.V_mono HO_166001.out (fun k_ hk => (⟨hk, hk.2⟩ : _ ∧ k_ ≠ gb173))) (fun _ hk => hk.2) (.slice A172_0 ((rd_T38 l0 x12_1).f0).length c172_0)) (fun _ hk => hk.2) (.slice A172_1 ((rd_T38 l0 x12_1).f1).length c172_1)) (fun _ h_ => h_.1)))); (case side8 => exact (Kd.V_reads' HO_166001.out).2.1); rintro e w16 ⟨rfl, hb⟩; refine ⟨_, rfl, ?_⟩; replace HO_5 := A_ (Kd.N_below (by (with_reducible repeat (first | apply Kd.N_alloc | apply Kd.N_drewN | apply Kd.N_drew)); exact (Kd.N_mono (Kd.N_far (p := ⟨gb173, 1, none⟩) (Kd.N_far (p := ⟨gb173, 0, none⟩) (Kd.N_mono HO_5.out (fun k_ hk => (⟨hk, hk.2⟩ : _ ∧ k_ ≠ gb173))) (fun _ hk => hk.2) (.slice A172_0 ((rd_T38 l0 x12_1).f0).length c172_0)) (fun _ hk => hk.2) (.slice A172_1 ((rd_T38 l0 x12_1).f1).length c172_1)) (fun _ h_ => h_.1))) hb); replace HO_10 := A_ (Kd.V_below (by (with_reducible repeat (first | apply Kd.V_alloc | apply Kd.V_drewN | apply Kd.V_drew)); exact (Kd.V_mono (Kd.V_far (p := ⟨gb173, 1, none⟩) (Kd.V_far (p := ⟨gb173, 0, none⟩) (Kd.V_mono HO_10.out (fun k_ hk => (⟨hk, hk.2⟩ : _ ∧ k_ ≠ gb173))) (fun _ hk => hk.2) (.slice A172_0 ((rd_T38 l0 x12_1).f0).length c172_0)) (fun _ hk => hk.2) (.slice A172_1 ((rd_T38 l0 x12_1).f1).length c172_1)) (fun _ h_ => h_.1))) hb); replace HO_166000 := A_ (Kd.V_below (by (with_reducible repeat (first | apply Kd.V_alloc | apply Kd.V_drewN | apply Kd.V_drew)); exact (Kd.V_mono (Kd.V_far (p := ⟨gb173, 1, none⟩) (Kd.V_far (p := ⟨gb173, 0, none⟩) (Kd.V_mono HO_166000.out (fun k_ hk => (⟨hk, hk.2⟩ : _ ∧ k_ ≠ gb173))) (fun _ hk => hk.2) (.slice A172_0 ((rd_T38 l0 x12_1).f0).length c172_0)) (fun _ hk => hk.2) (.slice A172_1 ((rd_T38 l0 x12_1).f1).length c172_1)) (fun _ h_ => h_.1))) hb); replace HO_166001 := A_ (Kd.V_below (by (with_reducible repeat (first | apply Kd.V_alloc | apply Kd.V_drewN | apply Kd.V_drew)); exact (Kd.V_mono (Kd.V_far (p := ⟨gb173, 1, none⟩) (Kd.V_far (p := ⟨gb173, 0, none⟩) (Kd.V_mono HO_166001.out (fun k_ hk => (⟨hk, hk.2⟩ : _ ∧ k_ ≠ gb173))) (fun _ hk => hk.2) (.slice A172_0 ((rd_T38 l0 x12_1).f0).length c172_0)) (fun _ hk => hk.2) (.slice A172_1 ((rd_T38 l0 x12_1).f1).length c172_1)) (fun _ h_ => h_.1))) hb); replace BK165 := A_ (kE_ (g := gb165) (o := .cells #[.slice A1_0 l1_0.length c1_0, .slice A1_1 l1_1.length c1_1] 38 (0, 0)) (by (with_reducible repeat (first | refine kA_ ?_ _ | refine kB_ ?_ | refine kC_ ?_ _)); refine blk_far ?_ NB165_173.out _; (with_reducible repeat (first | refine kA_ ?_ _ | refine kB_ ?_ | refine kC_ ?_ _)); refine blk_far ?_ NB165_173.out _; (with_reducible repeat (first | refine kA_ ?_ _ | refine kB_ ?_ | refine kC_ ?_ _)); exact BK165.out) hb); replace HR172_0 := A_ (cD_ ((Kd.V_reads' (by (with_reducible repeat (first | apply Kd.V_alloc | apply Kd.V_drewN | apply Kd.V_drew)); exact (Kd.V_mono (Kd.V_far (p := ⟨gb173, 1, none⟩) (Kd.V_far (p := ⟨gb173, 0, none⟩) (Kd.V_mono HL172_0.out (fun k_ hk => (⟨hk, hk.2⟩ : _ ∧ k_ ≠ gb173))) (fun _ hk => hk.2) (.slice A172_0 ((rd_T38 l0 x12_1).f0).length c172_0)) (fun _ hk => hk.2) (.slice A172_1 ((rd_T38 l0 x12_1).f1).length c172_1)) (fun _ h_ => h_.1)))).2.2) hb); replace HL172_0 := A_ (Kd.V_below (by (with_reducible repeat (first | apply Kd.V_alloc | apply Kd.V_drewN | apply Kd.V_drew)); exact (Kd.V_mono (Kd.V_far (p := ⟨gb173, 1, none⟩) (Kd.V_far (p := ⟨gb173, 0, none⟩) (Kd.V_mono HL172_0.out (fun k_ hk => (⟨hk, hk.2⟩ : _ ∧ k_ ≠ gb173))) (fun _ hk => hk.2) (.slice A172_0 ((rd_T38 l0 x12_1).f0).length c172_0)) (fun _ hk => hk.2) (.slice A172_1 ((rd_T38 l0 x12_1).f1).length c172_1)) (fun _ h_ => h_.1))) hb); replace HR172_1 := A_ (cD_ ((Kd.V_reads' (by (with_reducible repeat (first | apply Kd.V_alloc | apply Kd.V_drewN | apply Kd.V_drew)); exact (Kd.V_mono (Kd.V_far (p := ⟨gb173, 1, none⟩) (Kd.V_far (p := ⟨gb173, 0, none⟩) (Kd.V_mono HL172_1.out (fun k_ hk => (⟨hk, hk.2⟩ : _ ∧ k_ ≠ gb173))) (fun _ hk => hk.2) (.slice A172_0 ((rd_T38 l0 x12_1).f0).length c172_0)) (fun _ hk => hk.2) (.slice A172_1 ((rd_T38 l0 x12_1).f1).length c172_1)) (fun _ h_ => h_.1)))).2.2) hb); replace HL172_1 := A_ (Kd.V_below (by (with_reducible repeat (first | apply Kd.V_alloc | apply Kd.V_drewN | apply Kd.V_drew)); exact (Kd.V_mono (Kd.V_far (p := ⟨gb173, 1, none⟩) (Kd.V_far (p := ⟨gb173, 0, none⟩) (Kd.V_mono HL172_1.out (fun k_ hk => (⟨hk, hk.2⟩ : _ ∧ k_ ≠ gb173))) (fun _ hk => hk.2) (.slice A172_0 ((rd_T38 l0 x12_1).f0).length c172_0)) (fun _ hk => hk.2) (.slice A172_1 ((rd_T38 l0 x12_1).f1).length c172_1)) (fun _ h_ => h_.1))) hb); replace BK173 := A_ (kE_ (g := gb173) (o := .cells #[.slice A172_0 ((rd_T38 l0 x12_1).f0).length c172_0, .slice A172_1 ((rd_T38 l0 x12_1).f1).length c172_1] 38 (0, 0)) qp_ hb); replace HB := b1_ hb; clear hb; have hcz17_0 : w16.cell? ⟨gb173, 0, none⟩ = some (.slice A172_0 ((rd_T38 l0 x12_1).f0).length c172_0) := cz0_ BK173; have hcz17_1 : w16.cell? ⟨gb173, 1, none⟩ = some (.slice A172_1 ((rd_T38 l0 x12_1).f1).length c172_1) := cz1_ BK173; have hfz17_0 := kD_ BK173.out 0; have hfz17_1 := kD_ BK173.out 1) | ((with_reducible refine gate_builtin (b := .append) (xs := #[.tmp 30, .tmp 32]) rfl ?_); at_builtin; refine Kd.N_append k38 (w0 := w) w.heap.size rfl (.tmp 30) (.tmp 32) 28 38 (.agg #[(.slice none 0 0), (.slice none 0 0)]) 48 rfl Tryz.underlying28 info38 rfl (by decide) (by omega) u5 x5_1 (⟨(rd_T38 l0 x12_1).f0, (rd_T38 l0 x12_1).f1⟩ : S38) [.slice A172_0 ((rd_T38 l0 x12_1).f0).length c172_0, .slice A172_1 ((rd_T38 l0 x12_1).f1).length c172_1] (fun k_ => ((P0_ k_ ∨ P1_0_ k_ ∨ P1_1_ k_) ∨ w.heap.size ≤ k_) ∧ k_ ≠ gb165 ∧ k_ ≠ gb173) (fun k_ => ((fun k_ => ((P0_ k_ ∨ P1_0_ k_ ∨ P1_1_ k_) ∨ w.heap.size ≤ k_) ∧ k_ ≠ gb165 ∧ k_ ≠ gb173)) k_ ∧ some k_ ≠ (u5 : Value).ownBlock) rfl rfl ?aP (fun _ hk => hk) ?aF ?aO ?aB ?aS ?aL ?_; (case aP => exact (k38_mkF _ _ (⟨(rd_T38 l0 x12_1).f0, (rd_T38 l0 x12_1).f1⟩ : S38) (Kd.V_reads' (Kd.V_mono (ok' := (fun k_ => ((fun k_ => ((P0_ k_ ∨ P1_0_ k_ ∨ P1_1_ k_) ∨ w.heap.size ≤ k_) ∧ k_ ≠ gb165 ∧ k_ ≠ gb173)) k_ ∧ some k_ ≠ (u5 : Value).ownBlock)) (HL172_0.out) (fun k_ hk => ⟨⟨hk.1.1, ⟨hk.1.2.2, hk.2⟩⟩, hk.1.2.1⟩))).2.1 (Kd.V_F (Kd.V_mono (ok' := (fun k_ => ((fun k_ => ((P0_ k_ ∨ P1_0_ k_ ∨ P1_1_ k_) ∨ w.heap.size ≤ k_) ∧ k_ ≠ gb165 ∧ k_ ≠ gb173)) k_ ∧ some k_ ≠ (u5 : Value).ownBlock)) (HL172_0.out) (fun k_ hk => ⟨⟨hk.1.1, ⟨hk.1.2.2, hk.2⟩⟩, hk.1.2.1⟩))) (Kd.V_reads' (Kd.V_mono (ok' := (fun k_ => ((fun k_ => ((P0_ k_ ∨ P1_0_ k_ ∨ P1_1_ k_) ∨ w.heap.size ≤ k_) ∧ k_ ≠ gb165 ∧ k_ ≠ gb173)) k_ ∧ some k_ ≠ (u5 : Value).ownBlock)) (HL172_1.out) (fun k_ hk => ⟨⟨hk.1.1, ⟨hk.1.2.2, hk.2⟩⟩, hk.1.2.1⟩))).2.1 (Kd.V_F (Kd.V_mono (ok' := (fun k_ => ((fun k_ => ((P0_ k_ ∨ P1_0_ k_ ∨ P1_1_ k_) ∨ w.heap.size ≤ k_) ∧ k_ ≠ gb165 ∧ k_ ≠ gb173)) k_ ∧ some k_ ≠ (u5 : Value).ownBlock)) (HL172_1.out) (fun k_ hk => ⟨⟨hk.1.1, ⟨hk.1.2.2, hk.2⟩⟩, hk.1.2.1⟩))))); (case aB => exact hB_); (case aF => exact (fun k_ hk => ⟨(.inr (Nat.le_trans (bF_ hB_) hk)), Kd.freshB (kk_ BK165) k_ hk, Kd.freshB (kk_ BK173) k_ hk⟩)); (case aO => exact (by (with_reducible repeat (first | apply Kd.N_alloc | apply Kd.N_drewN | apply Kd.N_drew)); exact Kd.N_mono HO_5.out (fun _ hk => ⟨hk.1.1, ⟨hk.1.2, hk.2⟩⟩))); (case aS => exact (bF_ hB_)); (case aL => have := LMc11.out; omega); intro v176 w18 ho hb hg hat; rw [← Ny175.out] at ho; replace HO_10 := A_ (Kd.V_afterv (ok := (fun k_ => ((P0_ k_ ∨ P1_0_ k_ ∨ P1_1_ k_) ∨ w.heap.size ≤ k_) ∧ k_ ≠ gb165 ∧ k_ ≠ gb173)) (by (with_reducible repeat (first | apply Kd.V_alloc | apply Kd.V_drewN | apply Kd.V_drew)); exact Kd.V_mono HO_10.out (fun _ hk => ⟨⟨hk.1.1, ⟨hk.1.2.2, hk.2⟩⟩, hk.1.2.1⟩)) hg hat); replace HO_166000 := A_ (Kd.V_afterv (ok := (fun k_ => ((P0_ k_ ∨ P1_0_ k_ ∨ P1_1_ k_) ∨ w.heap.size ≤ k_) ∧ k_ ≠ gb165 ∧ k_ ≠ gb173)) (by (with_reducible repeat (first | apply Kd.V_alloc | apply Kd.V_drewN | apply Kd.V_drew)); exact Kd.V_mono HO_166000.out (fun _ hk => ⟨⟨hk.1.1, ⟨hk.1.2.2, hk.2⟩⟩, hk.1.2.1⟩)) hg hat); replace HO_166001 := A_ (Kd.V_afterv (ok := (fun k_ => ((P0_ k_ ∨ P1_0_ k_ ∨ P1_1_ k_) ∨ w.heap.size ≤ k_) ∧ k_ ≠ gb165 ∧ k_ ≠ gb173)) (by (with_reducible repeat (first | apply Kd.V_alloc | apply Kd.V_drewN | apply Kd.V_drew)); exact Kd.V_mono HO_166001.out (fun _ hk => ⟨⟨hk.1.1, ⟨hk.1.2.2, hk.2⟩⟩, hk.1.2.1⟩)) hg hat); replace BK165 := A_ (blk_grown (kk_ BK165) hg (Kd.N_away HO_5.out (fun _ hk => hk.1.2))); replace HL172_0 := A_ (Kd.V_afterv (ok := (fun k_ => ((P0_ k_ ∨ P1_0_ k_ ∨ P1_1_ k_) ∨ w.heap.size ≤ k_) ∧ k_ ≠ gb165 ∧ k_ ≠ gb173)) (by (with_reducible repeat (first | apply Kd.V_alloc | apply Kd.V_drewN | apply Kd.V_drew)); exact Kd.V_mono HL172_0.out (fun _ hk => ⟨⟨hk.1.1, ⟨hk.1.2.2, hk.2⟩⟩, hk.1.2.1⟩)) hg hat); replace HL172_1 := A_ (Kd.V_afterv (ok := (fun k_ => ((P0_ k_ ∨ P1_0_ k_ ∨ P1_1_ k_) ∨ w.heap.size ≤ k_) ∧ k_ ≠ gb165 ∧ k_ ≠ gb173)) (by (with_reducible repeat (first | apply Kd.V_alloc | apply Kd.V_drewN | apply Kd.V_drew)); exact Kd.V_mono HL172_1.out (fun _ hk => ⟨⟨hk.1.1, ⟨hk.1.2.2, hk.2⟩⟩, hk.1.2.1⟩)) hg hat); replace BK173 := A_ (blk_grown (kk_ BK173) hg (Kd.N_away HO_5.out (fun _ hk => hk.2))); replace HB := A_ hb; have HO177 := A_ ho; clear HO_5; clear ho hb hg hat))
     go_roundg k1
     case measure => have := HK1.out; omega
     case rel => exact ⟨(y175), (true), (wrap64 (x12_1 + 1)), qc_, qc_, H', ⟨by have := HK1.out; omega⟩, ⟨by (with_reducible repeat (first | apply Kd.N_alloc | apply Kd.N_drewN | apply Kd.N_drew)); exact Kd.N_mono HO177.out (fun _ hk => ⟨hk.1, hk.2.1⟩)⟩, ⟨by (with_reducible repeat (first | apply Kd.V_alloc | apply Kd.V_drewN | apply Kd.V_drew)); exact Kd.V_mono HO_10.out (fun _ hk => ⟨hk.1.1, ⟨hk.2, hk.1.2.1⟩⟩)⟩, ⟨by (with_reducible repeat (first | apply Kd.V_alloc | apply Kd.V_drewN | apply Kd.V_drew)); exact Kd.V_mono HO_166000.out (fun _ hk => ⟨hk.1.1, ⟨hk.2, hk.1.2.1⟩⟩)⟩, ⟨by (with_reducible repeat (first | apply Kd.V_alloc | apply Kd.V_drewN | apply Kd.V_drew)); exact Kd.V_mono HO_166001.out (fun _ hk => ⟨hk.1.1, ⟨hk.2, hk.1.2.1⟩⟩)⟩, ⟨(kk_ BK165)⟩, ⟨hB_⟩⟩
    ·replace c10 := Bool.eq_false_iff.mpr c10
     subst c10
     have H1 : (if x6_1 = true then (if x5_1.length < 2932031007402 then (Z39.l0 k1 (x5_1 ++ [(⟨(rd_T38 l0 x12_1).f0, (rd_T38 l0 x12_1).f1⟩ : S38)]) x6_1 l0 (l0.length : Int) (wrap64 (x12_1 + 1)) l1_0 l1_1) else (none)) else ((Z36.f k1 l1_0 l1_1 ((rd_T38 l0 x12_1).f0) ((rd_T38 l0 x12_1).f1)).bind fun t181 => (if t181 = true then (if x5_1.length < 2932031007402 then ((some (x5_1 ++ [(⟨l1_0, l1_1⟩ : S38)] : List (S38))).bind fun y182 => (if y182.length < 2932031007402 then (Z39.l0 k1 (y182 ++ [(⟨(rd_T38 l0 x12_1).f0, (rd_T38 l0 x12_1).f1⟩ : S38)]) true l0 (l0.length : Int) (wrap64 (x12_1 + 1)) l1_0 l1_1) else (none))) else (none)) else (if x5_1.length < 2932031007402 then (Z39.l0 k1 (x5_1 ++ [(⟨(rd_T38 l0 x12_1).f0, (rd_T38 l0 x12_1).f1⟩ : S38)]) x6_1 l0 (l0.length : Int) (wrap64 (x12_1 + 1)) l1_0 l1_1) else (none))))) = some r := by rw [if_neg (show ¬ (false = true) by decide)] at H; exact H
     clear H
     have H := H1
     clear H1
     by_cases c19 : x6_1 = true
     ·subst c19
      rw [if_pos rfl] at H
      have c20 := cp_ H
      replace H := ca_ H
      have LMc20 := A_ c20
      clear c20
      obtain ⟨y178, hy178⟩ : ∃ y_ : List (S38), y_ = (x5_1 ++ [(⟨(rd_T38 l0 x12_1).f0, (rd_T38 l0 x12_1).f1⟩ : S38)]) := ⟨_, rfl⟩
      replace H : (Z39.l0 k1 y178 true l0 (l0.length : Int) (wrap64 (x12_1 + 1)) l1_0 l1_1) = some r := by first | (rw [hy178]; exact H) | exact H
      have Ny178 := A_ hy178
      clear hy178
      have H' := A_ H
      clear H
      have p172 : 0 ≤ (x12_1 : Int) := oB_ qe_
      have q172 : x12_1 < (l0.length : Int) := oB_ qe_
      obtain ⟨ad172, A172_0, c172_0, A172_1, c172_1, e172, hx172_0, hx172_1, hl172_0, hi172_0, hl172_1, hi172_1⟩ := at_T38 (Kd.V_reads' HO_10.out).2.2 x12_1 p172 q172
      cases e172
      obtain ⟨ce172, hce172, hMe172, hcc172⟩ := Kd.V_get HO_10.out z38 x12_1 p172 (by first | exact q172 | exact oB_ qe_ | (have e_ := (Kd.V_reads' HO_10.out).1; omega))
      obtain ⟨ua172_0, uc172_0, ua172_1, uc172_1, rfl, ul172_0, ge172_0, ul172_1, ge172_1⟩ := k38_openF hMe172
      have hv172_0 := hcc172 0 _ rfl
      rw [Nat.add_zero] at hv172_0
      replace hv172_0 := Option.some.inj (hv172_0.symm.trans hx172_0)
      injection hv172_0 with hva_ hvn_ hvc_
      rw [hva_] at ge172_0
      rw [hvc_] at ul172_0
      have HL172_0 := A_ (show Kd.V (Kd.int .i64) 3 _ w.heap.size _ _ ((rd_T38 l0 x12_1).f0) from Kd.V_mk ul172_0 ge172_0)
      clear hva_ hvn_ hvc_ ge172_0 ul172_0
      have hv172_1 := hcc172 1 _ rfl
      rw [add_field _ _ 1 (by omega)] at hv172_1
      replace hv172_1 := Option.some.inj (hv172_1.symm.trans hx172_1)
      injection hv172_1 with hva_ hvn_ hvc_
      rw [hva_] at ge172_1
      rw [hvc_] at ul172_1
      have HL172_1 := A_ (show Kd.V (Kd.int .i64) 3 _ w.heap.size _ _ ((rd_T38 l0 x12_1).f1) from Kd.V_mk ul172_1 ge172_1)
      clear hva_ hvn_ hvc_ ge172_1 ul172_1
      clear hcc172 hce172
      have HR172_0 := A_ hi172_0
      have HC172_0 := A_ hl172_0
      clear hi172_0 hl172_0
      have HR172_1 := A_ hi172_1
      have HC172_1 := A_ hl172_1
      clear hi172_1 hl172_1
      replace p172 := eq_true p172
      replace q172 := eq_true q172
      go_wp2_with (first | ((with_reducible refine gB_ (N := 8) rfl ?_); refine bx_ 8 #[.slice none 0 0, .slice none 0 0] 38 ?_; intro gb173 hg w21 hbox hb; replace HO_5 := A_ (Kd.N_below (Kd.N_elderB (by (with_reducible repeat (first | apply Kd.N_alloc | apply Kd.N_drewN | apply Kd.N_drew)); exact HO_5.out) gb173 (Nat.le_of_eq hg.symm)) hb); replace HO_10 := A_ (Kd.V_below (Kd.V_elderB (by (with_reducible repeat (first | apply Kd.V_alloc | apply Kd.V_drewN | apply Kd.V_drew)); exact HO_10.out) gb173 (Nat.le_of_eq hg.symm)) hb); replace HO_166000 := A_ (Kd.V_below (Kd.V_elderB (by (with_reducible repeat (first | apply Kd.V_alloc | apply Kd.V_drewN | apply Kd.V_drew)); exact HO_166000.out) gb173 (Nat.le_of_eq hg.symm)) hb); replace HO_166001 := A_ (Kd.V_below (Kd.V_elderB (by (with_reducible repeat (first | apply Kd.V_alloc | apply Kd.V_drewN | apply Kd.V_drew)); exact HO_166001.out) gb173 (Nat.le_of_eq hg.symm)) hb); replace HL172_0 := A_ (Kd.V_below (Kd.V_elderB (by (with_reducible repeat (first | apply Kd.V_alloc | apply Kd.V_drewN | apply Kd.V_drew)); exact HL172_0.out) gb173 (Nat.le_of_eq hg.symm)) hb); replace HL172_1 := A_ (Kd.V_below (Kd.V_elderB (by (with_reducible repeat (first | apply Kd.V_alloc | apply Kd.V_drewN | apply Kd.V_drew)); exact HL172_1.out) gb173 (Nat.le_of_eq hg.symm)) hb); replace HR172_0 := A_ (cD_ (by repeat (first | (with_reducible exact HR172_0.out) | (with_reducible refine cA_ ?_ _) | (with_reducible refine cB_ ?_ _) | (with_reducible refine cC_ ?_) | exact HR172_0.out)) hb); replace HR172_1 := A_ (cD_ (by repeat (first | (with_reducible exact HR172_1.out) | (with_reducible refine cA_ ?_ _) | (with_reducible refine cB_ ?_ _) | (with_reducible refine cC_ ?_) | exact HR172_1.out)) hb); have BK173 := A_ hbox; have GW173 := gw_ w hg; have GE173 := GW173; replace HB := b1_ hb; have NB165_173 := gN_ BK165 hg; have NB173_165 := gP_ BK165 hg; replace BK165 := bb_ BK165 hb; clear hb hbox hg; have hnb22 := NB173_165.out; have hnc22 := NB165_173.out; obtain ⟨hcz23_0, hcz23_1, hfz23_0, hfz23_1⟩ := c2_ BK173; obtain ⟨hcz24_0, hcz24_1, hfz24_0, hfz24_1⟩ := c2_ BK165) | ((with_reducible refine gA_ (f := 47) rfl ?_); refine gL_ (some 18) Tryz.func47 #[.agg #[.slice A172_0 ((rd_T38 l0 x12_1).f0).length c172_0, .slice A172_1 ((rd_T38 l0 x12_1).f1).length c172_1], .agg #[.slice A1_0 l1_0.length c1_0, .slice A1_1 l1_1.length c1_1]] rfl qa_ ?_; (with_reducible refine (Z17.calls k1 _ _ ((rd_T38 l0 x12_1).f0) _ _ ((rd_T38 l0 x12_1).f1) _ _ l1_0 _ _ l1_1 false _ ?side1 ?side2 ?side3 ?side4 ?side5 ?side6 ?side7 ?side8 A9.out).mono ?_); (case side1 => repeat (first | exact ((Kd.V_reads' (by (with_reducible repeat (first | apply Kd.V_alloc | apply Kd.V_drewN | apply Kd.V_drew)); exact (Kd.V_mono (Kd.V_far (p := ⟨gb173, 1, none⟩) (Kd.V_far (p := ⟨gb173, 0, none⟩) (Kd.V_mono HL172_0.out (fun k_ hk => (⟨hk, hk.2⟩ : _ ∧ k_ ≠ gb173))) (fun _ hk => hk.2) (.slice A172_0 ((rd_T38 l0 x12_1).f0).length c172_0)) (fun _ hk => hk.2) (.slice A172_1 ((rd_T38 l0 x12_1).f1).length c172_1)) (fun _ h_ => h_.1)))).2.2) | (with_reducible first | refine cA_ ?_ _ | refine cB_ ?_ _ | refine cC_ ?_))); (case side2 => exact HC172_0.out); (case side3 => repeat (first | exact ((Kd.V_reads' (by (with_reducible repeat (first | apply Kd.V_alloc | apply Kd.V_drewN | apply Kd.V_drew)); exact (Kd.V_mono (Kd.V_far (p := ⟨gb173, 1, none⟩) (Kd.V_far (p := ⟨gb173, 0, none⟩) (Kd.V_mono HL172_1.out (fun k_ hk => (⟨hk, hk.2⟩ : _ ∧ k_ ≠ gb173))) (fun _ hk => hk.2) (.slice A172_0 ((rd_T38 l0 x12_1).f0).length c172_0)) (fun _ hk => hk.2) (.slice A172_1 ((rd_T38 l0 x12_1).f1).length c172_1)) (fun _ h_ => h_.1)))).2.2) | (with_reducible first | refine cA_ ?_ _ | refine cB_ ?_ _ | refine cC_ ?_))); (case side4 => exact HC172_1.out); (case side5 => refine (Kd.V_reads' (e := 3) (base := w.heap.size) (ok := fun k_ => ((((P0_ k_ ∨ P1_0_ k_ ∨ P1_1_ k_) ∨ w.heap.size ≤ k_) ∧ (some k_ ≠ (u5 : Value).ownBlock ∧ k_ ≠ gb165)) ∧ k_ ≠ gb173)) (n := l1_0.length) (c := c1_0) ?_).2.2; exact (by (with_reducible repeat (first | apply Kd.V_alloc | apply Kd.V_drewN | apply Kd.V_drew)); exact (Kd.V_mono (Kd.V_far (p := ⟨gb173, 1, none⟩) (Kd.V_far (p := ⟨gb173, 0, none⟩) (Kd.V_mono HO_166000.out (fun k_ hk => (⟨hk, hk.2⟩ : _ ∧ k_ ≠ gb173))) (fun _ hk => hk.2) (.slice A172_0 ((rd_T38 l0 x12_1).f0).length c172_0)) (fun _ hk => hk.2) (.slice A172_1 ((rd_T38 l0 x12_1).f1).length c172_1)) (fun _ h_ => h_.1)))); (case side6 => exact (Kd.V_reads' HO_166000.out).2.1); (case side7 => refine (Kd.V_reads' (e := 3) (base := w.heap.size) (ok := fun k_ => ((((P0_ k_ ∨ P1_0_ k_ ∨ P1_1_ k_) ∨ w.heap.size ≤ k_) ∧ (some k_ ≠ (u5 : Value).ownBlock ∧ k_ ≠ gb165)) ∧ k_ ≠ gb173)) (n := l1_1.length) (c := c1_1) ?_).2.2; exact (by (with_reducible repeat (first | apply Kd.V_alloc | apply Kd.V_drewN | apply Kd.V_drew)); exact (Kd.V_mono (Kd.V_far (p := ⟨gb173, 1, none⟩) (Kd.V_far (p := ⟨gb173, 0, none⟩) (Kd.V_mono HO_166001.out (fun k_ hk => (⟨hk, hk.2⟩ : _ ∧ k_ ≠ gb173))) (fun _ hk => hk.2) (.slice A172_0 ((rd_T38 l0 x12_1).f0).length c172_0)) (fun _ hk => hk.2) (.slice A172_1 ((rd_T38 l0 x12_1).f1).length c172_1)) (fun _ h_ => h_.1)))); (case side8 => exact (Kd.V_reads' HO_166001.out).2.1); rintro e w25 ⟨rfl, hb⟩; refine ⟨_, rfl, ?_⟩; replace HO_5 := A_ (Kd.N_below (by (with_reducible repeat (first | apply Kd.N_alloc | apply Kd.N_drewN | apply Kd.N_drew)); exact (Kd.N_mono (Kd.N_far (p := ⟨gb173, 1, none⟩) (Kd.N_far (p := ⟨gb173, 0, none⟩) (Kd.N_mono HO_5.out (fun k_ hk => (⟨hk, hk.2⟩ : _ ∧ k_ ≠ gb173))) (fun _ hk => hk.2) (.slice A172_0 ((rd_T38 l0 x12_1).f0).length c172_0)) (fun _ hk => hk.2) (.slice A172_1 ((rd_T38 l0 x12_1).f1).length c172_1)) (fun _ h_ => h_.1))) hb); replace HO_10 := A_ (Kd.V_below (by (with_reducible repeat (first | apply Kd.V_alloc | apply Kd.V_drewN | apply Kd.V_drew)); exact (Kd.V_mono (Kd.V_far (p := ⟨gb173, 1, none⟩) (Kd.V_far (p := ⟨gb173, 0, none⟩) (Kd.V_mono HO_10.out (fun k_ hk => (⟨hk, hk.2⟩ : _ ∧ k_ ≠ gb173))) (fun _ hk => hk.2) (.slice A172_0 ((rd_T38 l0 x12_1).f0).length c172_0)) (fun _ hk => hk.2) (.slice A172_1 ((rd_T38 l0 x12_1).f1).length c172_1)) (fun _ h_ => h_.1))) hb); replace HO_166000 := A_ (Kd.V_below (by (with_reducible repeat (first | apply Kd.V_alloc | apply Kd.V_drewN | apply Kd.V_drew)); exact (Kd.V_mono (Kd.V_far (p := ⟨gb173, 1, none⟩) (Kd.V_far (p := ⟨gb173, 0, none⟩) (Kd.V_mono HO_166000.out (fun k_ hk => (⟨hk, hk.2⟩ : _ ∧ k_ ≠ gb173))) (fun _ hk => hk.2) (.slice A172_0 ((rd_T38 l0 x12_1).f0).length c172_0)) (fun _ hk => hk.2) (.slice A172_1 ((rd_T38 l0 x12_1).f1).length c172_1)) (fun _ h_ => h_.1))) hb); replace HO_166001 := A_ (Kd.V_below (by (with_reducible repeat (first | apply Kd.V_alloc | apply Kd.V_drewN | apply Kd.V_drew)); exact (Kd.V_mono (Kd.V_far (p := ⟨gb173, 1, none⟩) (Kd.V_far (p := ⟨gb173, 0, none⟩) (Kd.V_mono HO_166001.out (fun k_ hk => (⟨hk, hk.2⟩ : _ ∧ k_ ≠ gb173))) (fun _ hk => hk.2) (.slice A172_0 ((rd_T38 l0 x12_1).f0).length c172_0)) (fun _ hk => hk.2) (.slice A172_1 ((rd_T38 l0 x12_1).f1).length c172_1)) (fun _ h_ => h_.1))) hb); replace BK165 := A_ (kE_ (g := gb165) (o := .cells #[.slice A1_0 l1_0.length c1_0, .slice A1_1 l1_1.length c1_1] 38 (0, 0)) (by (with_reducible repeat (first | refine kA_ ?_ _ | refine kB_ ?_ | refine kC_ ?_ _)); refine blk_far ?_ NB165_173.out _; (with_reducible repeat (first | refine kA_ ?_ _ | refine kB_ ?_ | refine kC_ ?_ _)); refine blk_far ?_ NB165_173.out _; (with_reducible repeat (first | refine kA_ ?_ _ | refine kB_ ?_ | refine kC_ ?_ _)); exact BK165.out) hb); replace HR172_0 := A_ (cD_ ((Kd.V_reads' (by (with_reducible repeat (first | apply Kd.V_alloc | apply Kd.V_drewN | apply Kd.V_drew)); exact (Kd.V_mono (Kd.V_far (p := ⟨gb173, 1, none⟩) (Kd.V_far (p := ⟨gb173, 0, none⟩) (Kd.V_mono HL172_0.out (fun k_ hk => (⟨hk, hk.2⟩ : _ ∧ k_ ≠ gb173))) (fun _ hk => hk.2) (.slice A172_0 ((rd_T38 l0 x12_1).f0).length c172_0)) (fun _ hk => hk.2) (.slice A172_1 ((rd_T38 l0 x12_1).f1).length c172_1)) (fun _ h_ => h_.1)))).2.2) hb); replace HL172_0 := A_ (Kd.V_below (by (with_reducible repeat (first | apply Kd.V_alloc | apply Kd.V_drewN | apply Kd.V_drew)); exact (Kd.V_mono (Kd.V_far (p := ⟨gb173, 1, none⟩) (Kd.V_far (p := ⟨gb173, 0, none⟩) (Kd.V_mono HL172_0.out (fun k_ hk => (⟨hk, hk.2⟩ : _ ∧ k_ ≠ gb173))) (fun _ hk => hk.2) (.slice A172_0 ((rd_T38 l0 x12_1).f0).length c172_0)) (fun _ hk => hk.2) (.slice A172_1 ((rd_T38 l0 x12_1).f1).length c172_1)) (fun _ h_ => h_.1))) hb); replace HR172_1 := A_ (cD_ ((Kd.V_reads' (by (with_reducible repeat (first | apply Kd.V_alloc | apply Kd.V_drewN | apply Kd.V_drew)); exact (Kd.V_mono (Kd.V_far (p := ⟨gb173, 1, none⟩) (Kd.V_far (p := ⟨gb173, 0, none⟩) (Kd.V_mono HL172_1.out (fun k_ hk => (⟨hk, hk.2⟩ : _ ∧ k_ ≠ gb173))) (fun _ hk => hk.2) (.slice A172_0 ((rd_T38 l0 x12_1).f0).length c172_0)) (fun _ hk => hk.2) (.slice A172_1 ((rd_T38 l0 x12_1).f1).length c172_1)) (fun _ h_ => h_.1)))).2.2) hb); replace HL172_1 := A_ (Kd.V_below (by (with_reducible repeat (first | apply Kd.V_alloc | apply Kd.V_drewN | apply Kd.V_drew)); exact (Kd.V_mono (Kd.V_far (p := ⟨gb173, 1, none⟩) (Kd.V_far (p := ⟨gb173, 0, none⟩) (Kd.V_mono HL172_1.out (fun k_ hk => (⟨hk, hk.2⟩ : _ ∧ k_ ≠ gb173))) (fun _ hk => hk.2) (.slice A172_0 ((rd_T38 l0 x12_1).f0).length c172_0)) (fun _ hk => hk.2) (.slice A172_1 ((rd_T38 l0 x12_1).f1).length c172_1)) (fun _ h_ => h_.1))) hb); replace BK173 := A_ (kE_ (g := gb173) (o := .cells #[.slice A172_0 ((rd_T38 l0 x12_1).f0).length c172_0, .slice A172_1 ((rd_T38 l0 x12_1).f1).length c172_1] 38 (0, 0)) qp_ hb); replace HB := b1_ hb; clear hb; have hcz26_0 : w25.cell? ⟨gb173, 0, none⟩ = some (.slice A172_0 ((rd_T38 l0 x12_1).f0).length c172_0) := cz0_ BK173; have hcz26_1 : w25.cell? ⟨gb173, 1, none⟩ = some (.slice A172_1 ((rd_T38 l0 x12_1).f1).length c172_1) := cz1_ BK173; have hfz26_0 := kD_ BK173.out 0; have hfz26_1 := kD_ BK173.out 1) | ((with_reducible refine gate_builtin (b := .append) (xs := #[.tmp 30, .tmp 32]) rfl ?_); at_builtin; refine Kd.N_append k38 (w0 := w) w.heap.size rfl (.tmp 30) (.tmp 32) 28 38 (.agg #[(.slice none 0 0), (.slice none 0 0)]) 48 rfl Tryz.underlying28 info38 rfl (by decide) (by omega) u5 x5_1 (⟨(rd_T38 l0 x12_1).f0, (rd_T38 l0 x12_1).f1⟩ : S38) [.slice A172_0 ((rd_T38 l0 x12_1).f0).length c172_0, .slice A172_1 ((rd_T38 l0 x12_1).f1).length c172_1] (fun k_ => ((P0_ k_ ∨ P1_0_ k_ ∨ P1_1_ k_) ∨ w.heap.size ≤ k_) ∧ k_ ≠ gb165 ∧ k_ ≠ gb173) (fun k_ => ((fun k_ => ((P0_ k_ ∨ P1_0_ k_ ∨ P1_1_ k_) ∨ w.heap.size ≤ k_) ∧ k_ ≠ gb165 ∧ k_ ≠ gb173)) k_ ∧ some k_ ≠ (u5 : Value).ownBlock) rfl rfl ?aP (fun _ hk => hk) ?aF ?aO ?aB ?aS ?aL ?_; (case aP => exact (k38_mkF _ _ (⟨(rd_T38 l0 x12_1).f0, (rd_T38 l0 x12_1).f1⟩ : S38) (Kd.V_reads' (Kd.V_mono (ok' := (fun k_ => ((fun k_ => ((P0_ k_ ∨ P1_0_ k_ ∨ P1_1_ k_) ∨ w.heap.size ≤ k_) ∧ k_ ≠ gb165 ∧ k_ ≠ gb173)) k_ ∧ some k_ ≠ (u5 : Value).ownBlock)) (HL172_0.out) (fun k_ hk => ⟨⟨hk.1.1, ⟨hk.1.2.2, hk.2⟩⟩, hk.1.2.1⟩))).2.1 (Kd.V_F (Kd.V_mono (ok' := (fun k_ => ((fun k_ => ((P0_ k_ ∨ P1_0_ k_ ∨ P1_1_ k_) ∨ w.heap.size ≤ k_) ∧ k_ ≠ gb165 ∧ k_ ≠ gb173)) k_ ∧ some k_ ≠ (u5 : Value).ownBlock)) (HL172_0.out) (fun k_ hk => ⟨⟨hk.1.1, ⟨hk.1.2.2, hk.2⟩⟩, hk.1.2.1⟩))) (Kd.V_reads' (Kd.V_mono (ok' := (fun k_ => ((fun k_ => ((P0_ k_ ∨ P1_0_ k_ ∨ P1_1_ k_) ∨ w.heap.size ≤ k_) ∧ k_ ≠ gb165 ∧ k_ ≠ gb173)) k_ ∧ some k_ ≠ (u5 : Value).ownBlock)) (HL172_1.out) (fun k_ hk => ⟨⟨hk.1.1, ⟨hk.1.2.2, hk.2⟩⟩, hk.1.2.1⟩))).2.1 (Kd.V_F (Kd.V_mono (ok' := (fun k_ => ((fun k_ => ((P0_ k_ ∨ P1_0_ k_ ∨ P1_1_ k_) ∨ w.heap.size ≤ k_) ∧ k_ ≠ gb165 ∧ k_ ≠ gb173)) k_ ∧ some k_ ≠ (u5 : Value).ownBlock)) (HL172_1.out) (fun k_ hk => ⟨⟨hk.1.1, ⟨hk.1.2.2, hk.2⟩⟩, hk.1.2.1⟩))))); (case aB => exact hB_); (case aF => exact (fun k_ hk => ⟨(.inr (Nat.le_trans (bF_ hB_) hk)), Kd.freshB (kk_ BK165) k_ hk, Kd.freshB (kk_ BK173) k_ hk⟩)); (case aO => exact (by (with_reducible repeat (first | apply Kd.N_alloc | apply Kd.N_drewN | apply Kd.N_drew)); exact Kd.N_mono HO_5.out (fun _ hk => ⟨hk.1.1, ⟨hk.1.2, hk.2⟩⟩))); (case aS => exact (bF_ hB_)); (case aL => have := LMc20.out; omega); intro v179 w27 ho hb hg hat; rw [← Ny178.out] at ho; replace HO_10 := A_ (Kd.V_afterv (ok := (fun k_ => ((P0_ k_ ∨ P1_0_ k_ ∨ P1_1_ k_) ∨ w.heap.size ≤ k_) ∧ k_ ≠ gb165 ∧ k_ ≠ gb173)) (by (with_reducible repeat (first | apply Kd.V_alloc | apply Kd.V_drewN | apply Kd.V_drew)); exact Kd.V_mono HO_10.out (fun _ hk => ⟨⟨hk.1.1, ⟨hk.1.2.2, hk.2⟩⟩, hk.1.2.1⟩)) hg hat); replace HO_166000 := A_ (Kd.V_afterv (ok := (fun k_ => ((P0_ k_ ∨ P1_0_ k_ ∨ P1_1_ k_) ∨ w.heap.size ≤ k_) ∧ k_ ≠ gb165 ∧ k_ ≠ gb173)) (by (with_reducible repeat (first | apply Kd.V_alloc | apply Kd.V_drewN | apply Kd.V_drew)); exact Kd.V_mono HO_166000.out (fun _ hk => ⟨⟨hk.1.1, ⟨hk.1.2.2, hk.2⟩⟩, hk.1.2.1⟩)) hg hat); replace HO_166001 := A_ (Kd.V_afterv (ok := (fun k_ => ((P0_ k_ ∨ P1_0_ k_ ∨ P1_1_ k_) ∨ w.heap.size ≤ k_) ∧ k_ ≠ gb165 ∧ k_ ≠ gb173)) (by (with_reducible repeat (first | apply Kd.V_alloc | apply Kd.V_drewN | apply Kd.V_drew)); exact Kd.V_mono HO_166001.out (fun _ hk => ⟨⟨hk.1.1, ⟨hk.1.2.2, hk.2⟩⟩, hk.1.2.1⟩)) hg hat); replace BK165 := A_ (blk_grown (kk_ BK165) hg (Kd.N_away HO_5.out (fun _ hk => hk.1.2))); replace HL172_0 := A_ (Kd.V_afterv (ok := (fun k_ => ((P0_ k_ ∨ P1_0_ k_ ∨ P1_1_ k_) ∨ w.heap.size ≤ k_) ∧ k_ ≠ gb165 ∧ k_ ≠ gb173)) (by (with_reducible repeat (first | apply Kd.V_alloc | apply Kd.V_drewN | apply Kd.V_drew)); exact Kd.V_mono HL172_0.out (fun _ hk => ⟨⟨hk.1.1, ⟨hk.1.2.2, hk.2⟩⟩, hk.1.2.1⟩)) hg hat); replace HL172_1 := A_ (Kd.V_afterv (ok := (fun k_ => ((P0_ k_ ∨ P1_0_ k_ ∨ P1_1_ k_) ∨ w.heap.size ≤ k_) ∧ k_ ≠ gb165 ∧ k_ ≠ gb173)) (by (with_reducible repeat (first | apply Kd.V_alloc | apply Kd.V_drewN | apply Kd.V_drew)); exact Kd.V_mono HL172_1.out (fun _ hk => ⟨⟨hk.1.1, ⟨hk.1.2.2, hk.2⟩⟩, hk.1.2.1⟩)) hg hat); replace BK173 := A_ (blk_grown (kk_ BK173) hg (Kd.N_away HO_5.out (fun _ hk => hk.2))); replace HB := A_ hb; have HO180 := A_ ho; clear HO_5; clear ho hb hg hat))
      go_roundg k1
      case measure => have := HK1.out; omega
      case rel => exact ⟨(y178), (true), (wrap64 (x12_1 + 1)), qc_, qc_, H', ⟨by have := HK1.out; omega⟩, ⟨by (with_reducible repeat (first | apply Kd.N_alloc | apply Kd.N_drewN | apply Kd.N_drew)); exact Kd.N_mono HO180.out (fun _ hk => ⟨hk.1, hk.2.1⟩)⟩, ⟨by (with_reducible repeat (first | apply Kd.V_alloc | apply Kd.V_drewN | apply Kd.V_drew)); exact Kd.V_mono HO_10.out (fun _ hk => ⟨hk.1.1, ⟨hk.2, hk.1.2.1⟩⟩)⟩, ⟨by (with_reducible repeat (first | apply Kd.V_alloc | apply Kd.V_drewN | apply Kd.V_drew)); exact Kd.V_mono HO_166000.out (fun _ hk => ⟨hk.1.1, ⟨hk.2, hk.1.2.1⟩⟩)⟩, ⟨by (with_reducible repeat (first | apply Kd.V_alloc | apply Kd.V_drewN | apply Kd.V_drew)); exact Kd.V_mono HO_166001.out (fun _ hk => ⟨hk.1.1, ⟨hk.2, hk.1.2.1⟩⟩)⟩, ⟨(kk_ BK165)⟩, ⟨hB_⟩⟩
     ·replace c19 := Bool.eq_false_iff.mpr c19
      subst c19
      have H1 : ((Z36.f k1 l1_0 l1_1 ((rd_T38 l0 x12_1).f0) ((rd_T38 l0 x12_1).f1)).bind fun t181 => (if t181 = true then (if x5_1.length < 2932031007402 then ((some (x5_1 ++ [(⟨l1_0, l1_1⟩ : S38)] : List (S38))).bind fun y182 => (if y182.length < 2932031007402 then (Z39.l0 k1 (y182 ++ [(⟨(rd_T38 l0 x12_1).f0, (rd_T38 l0 x12_1).f1⟩ : S38)]) true l0 (l0.length : Int) (wrap64 (x12_1 + 1)) l1_0 l1_1) else (none))) else (none)) else (if x5_1.length < 2932031007402 then (Z39.l0 k1 (x5_1 ++ [(⟨(rd_T38 l0 x12_1).f0, (rd_T38 l0 x12_1).f1⟩ : S38)]) false l0 (l0.length : Int) (wrap64 (x12_1 + 1)) l1_0 l1_1) else (none)))) = some r := by rw [if_neg (show ¬ (false = true) by decide)] at H; exact H
      clear H
      have H := H1
      clear H1
      obtain ⟨t181, A28, H⟩ := bi_ H
      by_cases c29 : t181 = true
      ·subst c29
       rw [if_pos rfl] at H
       have c30 := cp_ H
       replace H := ca_ H
       have LMc30 := A_ c30
       clear c30
       obtain ⟨y182, hy182⟩ : ∃ y_ : List (S38), y_ = (x5_1 ++ [(⟨l1_0, l1_1⟩ : S38)]) := ⟨_, rfl⟩
       replace H : (if y182.length < 2932031007402 then (Z39.l0 k1 (y182 ++ [(⟨(rd_T38 l0 x12_1).f0, (rd_T38 l0 x12_1).f1⟩ : S38)]) true l0 (l0.length : Int) (wrap64 (x12_1 + 1)) l1_0 l1_1) else (none)) = some r := by first | (rw [hy182]; exact H) | exact H
       have Ny182 := A_ hy182
       clear hy182
       have c31 := cp_ H
       replace H := ca_ H
       have LMc31 := A_ c31
       clear c31
       obtain ⟨y185, hy185⟩ : ∃ y_ : List (S38), y_ = (y182 ++ [(⟨(rd_T38 l0 x12_1).f0, (rd_T38 l0 x12_1).f1⟩ : S38)]) := ⟨_, rfl⟩
       replace H : (Z39.l0 k1 y185 true l0 (l0.length : Int) (wrap64 (x12_1 + 1)) l1_0 l1_1) = some r := by first | (rw [hy185]; exact H) | exact H
       have Ny185 := A_ hy185
       clear hy185
       have H' := A_ H
       clear H
       have p172 : 0 ≤ (x12_1 : Int) := oB_ qe_
       have q172 : x12_1 < (l0.length : Int) := oB_ qe_
       obtain ⟨ad172, A172_0, c172_0, A172_1, c172_1, e172, hx172_0, hx172_1, hl172_0, hi172_0, hl172_1, hi172_1⟩ := at_T38 (Kd.V_reads' HO_10.out).2.2 x12_1 p172 q172
       cases e172
       obtain ⟨ce172, hce172, hMe172, hcc172⟩ := Kd.V_get HO_10.out z38 x12_1 p172 (by first | exact q172 | exact oB_ qe_ | (have e_ := (Kd.V_reads' HO_10.out).1; omega))
       obtain ⟨ua172_0, uc172_0, ua172_1, uc172_1, rfl, ul172_0, ge172_0, ul172_1, ge172_1⟩ := k38_openF hMe172
       have hv172_0 := hcc172 0 _ rfl
       rw [Nat.add_zero] at hv172_0
       replace hv172_0 := Option.some.inj (hv172_0.symm.trans hx172_0)
       injection hv172_0 with hva_ hvn_ hvc_
       rw [hva_] at ge172_0
       rw [hvc_] at ul172_0
       have HL172_0 := A_ (show Kd.V (Kd.int .i64) 3 _ w.heap.size _ _ ((rd_T38 l0 x12_1).f0) from Kd.V_mk ul172_0 ge172_0)
       clear hva_ hvn_ hvc_ ge172_0 ul172_0
       have hv172_1 := hcc172 1 _ rfl
       rw [add_field _ _ 1 (by omega)] at hv172_1
       replace hv172_1 := Option.some.inj (hv172_1.symm.trans hx172_1)
       injection hv172_1 with hva_ hvn_ hvc_
       rw [hva_] at ge172_1
       rw [hvc_] at ul172_1
       have HL172_1 := A_ (show Kd.V (Kd.int .i64) 3 _ w.heap.size _ _ ((rd_T38 l0 x12_1).f1) from Kd.V_mk ul172_1 ge172_1)
       clear hva_ hvn_ hvc_ ge172_1 ul172_1
       clear hcc172 hce172
       have HR172_0 := A_ hi172_0
       have HC172_0 := A_ hl172_0
       clear hi172_0 hl172_0
       have HR172_1 := A_ hi172_1
       have HC172_1 := A_ hl172_1
       clear hi172_1 hl172_1
       replace p172 := eq_true p172
       replace q172 := eq_true q172
       go_wp2_with (first | ((with_reducible refine gB_ (N := 8) rfl ?_); refine bx_ 8 #[.slice none 0 0, .slice none 0 0] 38 ?_; intro gb173 hg w32 hbox hb; replace HO_5 := A_ (Kd.N_below (Kd.N_elderB (by (with_reducible repeat (first | apply Kd.N_alloc | apply Kd.N_drewN | apply Kd.N_drew)); exact HO_5.out) gb173 (Nat.le_of_eq hg.symm)) hb); replace HO_10 := A_ (Kd.V_below (Kd.V_elderB (by (with_reducible repeat (first | apply Kd.V_alloc | apply Kd.V_drewN | apply Kd.V_drew)); exact HO_10.out) gb173 (Nat.le_of_eq hg.symm)) hb); replace HO_166000 := A_ (Kd.V_below (Kd.V_elderB (by (with_reducible repeat (first | apply Kd.V_alloc | apply Kd.V_drewN | apply Kd.V_drew)); exact HO_166000.out) gb173 (Nat.le_of_eq hg.symm)) hb); replace HO_166001 := A_ (Kd.V_below (Kd.V_elderB (by (with_reducible repeat (first | apply Kd.V_alloc | apply Kd.V_drewN | apply Kd.V_drew)); exact HO_166001.out) gb173 (Nat.le_of_eq hg.symm)) hb); replace HL172_0 := A_ (Kd.V_below (Kd.V_elderB (by (with_reducible repeat (first | apply Kd.V_alloc | apply Kd.V_drewN | apply Kd.V_drew)); exact HL172_0.out) gb173 (Nat.le_of_eq hg.symm)) hb); replace HL172_1 := A_ (Kd.V_below (Kd.V_elderB (by (with_reducible repeat (first | apply Kd.V_alloc | apply Kd.V_drewN | apply Kd.V_drew)); exact HL172_1.out) gb173 (Nat.le_of_eq hg.symm)) hb); replace HR172_0 := A_ (cD_ (by repeat (first | (with_reducible exact HR172_0.out) | (with_reducible refine cA_ ?_ _) | (with_reducible refine cB_ ?_ _) | (with_reducible refine cC_ ?_) | exact HR172_0.out)) hb); replace HR172_1 := A_ (cD_ (by repeat (first | (with_reducible exact HR172_1.out) | (with_reducible refine cA_ ?_ _) | (with_reducible refine cB_ ?_ _) | (with_reducible refine cC_ ?_) | exact HR172_1.out)) hb); have BK173 := A_ hbox; have GW173 := gw_ w hg; have GE173 := GW173; replace HB := b1_ hb; have NB165_173 := gN_ BK165 hg; have NB173_165 := gP_ BK165 hg; replace BK165 := bb_ BK165 hb; clear hb hbox hg; have hnb33 := NB173_165.out; have hnc33 := NB165_173.out; obtain ⟨hcz34_0, hcz34_1, hfz34_0, hfz34_1⟩ := c2_ BK173; obtain ⟨hcz35_0, hcz35_1, hfz35_0, hfz35_1⟩ := c2_ BK165) | ((with_reducible refine gA_ (f := 47) rfl ?_); refine gL_ (some 18) Tryz.func47 #[.agg #[.slice A172_0 ((rd_T38 l0 x12_1).f0).length c172_0, .slice A172_1 ((rd_T38 l0 x12_1).f1).length c172_1], .agg #[.slice A1_0 l1_0.length c1_0, .slice A1_1 l1_1.length c1_1]] rfl qa_ ?_; (with_reducible refine (Z17.calls k1 _ _ ((rd_T38 l0 x12_1).f0) _ _ ((rd_T38 l0 x12_1).f1) _ _ l1_0 _ _ l1_1 false _ ?side1 ?side2 ?side3 ?side4 ?side5 ?side6 ?side7 ?side8 A9.out).mono ?_); (case side1 => repeat (first | exact ((Kd.V_reads' (by (with_reducible repeat (first | apply Kd.V_alloc | apply Kd.V_drewN | apply Kd.V_drew)); exact (Kd.V_mono (Kd.V_far (p := ⟨gb173, 1, none⟩) (Kd.V_far (p := ⟨gb173, 0, none⟩) (Kd.V_mono HL172_0.out (fun k_ hk => (⟨hk, hk.2⟩ : _ ∧ k_ ≠ gb173))) (fun _ hk => hk.2) (.slice A172_0 ((rd_T38 l0 x12_1).f0).length c172_0)) (fun _ hk => hk.2) (.slice A172_1 ((rd_T38 l0 x12_1).f1).length c172_1)) (fun _ h_ => h_.1)))).2.2) | (with_reducible first | refine cA_ ?_ _ | refine cB_ ?_ _ | refine cC_ ?_))); (case side2 => exact HC172_0.out); (case side3 => repeat (first | exact ((Kd.V_reads' (by (with_reducible repeat (first | apply Kd.V_alloc | apply Kd.V_drewN | apply Kd.V_drew)); exact (Kd.V_mono (Kd.V_far (p := ⟨gb173, 1, none⟩) (Kd.V_far (p := ⟨gb173, 0, none⟩) (Kd.V_mono HL172_1.out (fun k_ hk => (⟨hk, hk.2⟩ : _ ∧ k_ ≠ gb173))) (fun _ hk => hk.2) (.slice A172_0 ((rd_T38 l0 x12_1).f0).length c172_0)) (fun _ hk => hk.2) (.slice A172_1 ((rd_T38 l0 x12_1).f1).length c172_1)) (fun _ h_ => h_.1)))).2.2) | (with_reducible first | refine cA_ ?_ _ | refine cB_ ?_ _ | refine cC_ ?_))); (case side4 => exact HC172_1.out); (case side5 => refine (Kd.V_reads' (e := 3) (base := w.heap.size) (ok := fun k_ => ((((P0_ k_ ∨ P1_0_ k_ ∨ P1_1_ k_) ∨ w.heap.size ≤ k_) ∧ (some k_ ≠ (u5 : Value).ownBlock ∧ k_ ≠ gb165)) ∧ k_ ≠ gb173)) (n := l1_0.length) (c := c1_0) ?_).2.2; exact (by (with_reducible repeat (first | apply Kd.V_alloc | apply Kd.V_drewN | apply Kd.V_drew)); exact (Kd.V_mono (Kd.V_far (p := ⟨gb173, 1, none⟩) (Kd.V_far (p := ⟨gb173, 0, none⟩) (Kd.V_mono HO_166000.out (fun k_ hk => (⟨hk, hk.2⟩ : _ ∧ k_ ≠ gb173))) (fun _ hk => hk.2) (.slice A172_0 ((rd_T38 l0 x12_1).f0).length c172_0)) (fun _ hk => hk.2) (.slice A172_1 ((rd_T38 l0 x12_1).f1).length c172_1)) (fun _ h_ => h_.1)))); (case side6 => exact (Kd.V_reads' HO_166000.out).2.1); (case side7 => refine (Kd.V_reads' (e := 3) (base := w.heap.size) (ok := fun k_ => ((((P0_ k_ ∨ P1_0_ k_ ∨ P1_1_ k_) ∨ w.heap.size ≤ k_) ∧ (some k_ ≠ (u5 : Value).ownBlock ∧ k_ ≠ gb165)) ∧ k_ ≠ gb173)) (n := l1_1.length) (c := c1_1) ?_).2.2; exact (by (with_reducible repeat (first | apply Kd.V_alloc | apply Kd.V_drewN | apply Kd.V_drew)); exact (Kd.V_mono (Kd.V_far (p := ⟨gb173, 1, none⟩) (Kd.V_far (p := ⟨gb173, 0, none⟩) (Kd.V_mono HO_166001.out (fun k_ hk => (⟨hk, hk.2⟩ : _ ∧ k_ ≠ gb173))) (fun _ hk => hk.2) (.slice A172_0 ((rd_T38 l0 x12_1).f0).length c172_0)) (fun _ hk => hk.2) (.slice A172_1 ((rd_T38 l0 x12_1).f1).length c172_1)) (fun _ h_ => h_.1)))); (case side8 => exact (Kd.V_reads' HO_166001.out).2.1); rintro e w36 ⟨rfl, hb⟩; refine ⟨_, rfl, ?_⟩; replace HO_5 := A_ (Kd.N_below (by (with_reducible repeat (first | apply Kd.N_alloc | apply Kd.N_drewN | apply Kd.N_drew)); exact (Kd.N_mono (Kd.N_far (p := ⟨gb173, 1, none⟩) (Kd.N_far (p := ⟨gb173, 0, none⟩) (Kd.N_mono HO_5.out (fun k_ hk => (⟨hk, hk.2⟩ : _ ∧ k_ ≠ gb173))) (fun _ hk => hk.2) (.slice A172_0 ((rd_T38 l0 x12_1).f0).length c172_0)) (fun _ hk => hk.2) (.slice A172_1 ((rd_T38 l0 x12_1).f1).length c172_1)) (fun _ h_ => h_.1))) hb); replace HO_10 := A_ (Kd.V_below (by (with_reducible repeat (first | apply Kd.V_alloc | apply Kd.V_drewN | apply Kd.V_drew)); exact (Kd.V_mono (Kd.V_far (p := ⟨gb173, 1, none⟩) (Kd.V_far (p := ⟨gb173, 0, none⟩) (Kd.V_mono HO_10.out (fun k_ hk => (⟨hk, hk.2⟩ : _ ∧ k_ ≠ gb173))) (fun _ hk => hk.2) (.slice A172_0 ((rd_T38 l0 x12_1).f0).length c172_0)) (fun _ hk => hk.2) (.slice A172_1 ((rd_T38 l0 x12_1).f1).length c172_1)) (fun _ h_ => h_.1))) hb); replace HO_166000 := A_ (Kd.V_below (by (with_reducible repeat (first | apply Kd.V_alloc | apply Kd.V_drewN | apply Kd.V_drew)); exact (Kd.V_mono (Kd.V_far (p := ⟨gb173, 1, none⟩) (Kd.V_far (p := ⟨gb173, 0, none⟩) (Kd.V_mono HO_166000.out (fun k_ hk => (⟨hk, hk.2⟩ : _ ∧ k_ ≠ gb173))) (fun _ hk => hk.2) (.slice A172_0 ((rd_T38 l0 x12_1).f0).length c172_0)) (fun _ hk => hk.2) (.slice A172_1 ((rd_T38 l0 x12_1).f1).length c172_1)) (fun _ h_ => h_.1))) hb); replace HO_166001 := A_ (Kd.V_below (by (with_reducible repeat (first | apply Kd.V_alloc | apply Kd.V_drewN | apply Kd.V_drew)); exact (Kd.V_mono (Kd.V_far (p := ⟨gb173, 1, none⟩) (Kd.V_far (p := ⟨gb173, 0, none⟩) (Kd.V_mono HO_166001.out (fun k_ hk => (⟨hk, hk.2⟩ : _ ∧ k_ ≠ gb173))) (fun _ hk => hk.2) (.slice A172_0 ((rd_T38 l0 x12_1).f0).length c172_0)) (fun _ hk => hk.2) (.slice A172_1 ((rd_T38 l0 x12_1).f1).length c172_1)) (fun _ h_ => h_.1))) hb); replace BK165 := A_ (kE_ (g := gb165) (o := .cells #[.slice A1_0 l1_0.length c1_0, .slice A1_1 l1_1.length c1_1] 38 (0, 0)) (by (with_reducible repeat (first | refine kA_ ?_ _ | refine kB_ ?_ | refine kC_ ?_ _)); refine blk_far ?_ NB165_173.out _; (with_reducible repeat (first | refine kA_ ?_ _ | refine kB_ ?_ | refine kC_ ?_ _)); refine blk_far ?_ NB165_173.out _; (with_reducible repeat (first | refine kA_ ?_ _ | refine kB_ ?_ | refine kC_ ?_ _)); exact BK165.out) hb); replace HR172_0 := A_ (cD_ ((Kd.V_reads' (by (with_reducible repeat (first | apply Kd.V_alloc | apply Kd.V_drewN | apply Kd.V_drew)); exact (Kd.V_mono (Kd.V_far (p := ⟨gb173, 1, none⟩) (Kd.V_far (p := ⟨gb173, 0, none⟩) (Kd.V_mono HL172_0.out (fun k_ hk => (⟨hk, hk.2⟩ : _ ∧ k_ ≠ gb173))) (fun _ hk => hk.2) (.slice A172_0 ((rd_T38 l0 x12_1).f0).length c172_0)) (fun _ hk => hk.2) (.slice A172_1 ((rd_T38 l0 x12_1).f1).length c172_1)) (fun _ h_ => h_.1)))).2.2) hb); replace HL172_0 := A_ (Kd.V_below (by (with_reducible repeat (first | apply Kd.V_alloc | apply Kd.V_drewN | apply Kd.V_drew)); exact (Kd.V_mono (Kd.V_far (p := ⟨gb173, 1, none⟩) (Kd.V_far (p := ⟨gb173, 0, none⟩) (Kd.V_mono HL172_0.out (fun k_ hk => (⟨hk, hk.2⟩ : _ ∧ k_ ≠ gb173))) (fun _ hk => hk.2) (.slice A172_0 ((rd_T38 l0 x12_1).f0).length c172_0)) (fun _ hk => hk.2) (.slice A172_1 ((rd_T38 l0 x12_1).f1).length c172_1)) (fun _ h_ => h_.1))) hb); replace HR172_1 := A_ (cD_ ((Kd.V_reads' (by (with_reducible repeat (first | apply Kd.V_alloc | apply Kd.V_drewN | apply Kd.V_drew)); exact (Kd.V_mono (Kd.V_far (p := ⟨gb173, 1, none⟩) (Kd.V_far (p := ⟨gb173, 0, none⟩) (Kd.V_mono HL172_1.out (fun k_ hk => (⟨hk, hk.2⟩ : _ ∧ k_ ≠ gb173))) (fun _ hk => hk.2) (.slice A172_0 ((rd_T38 l0 x12_1).f0).length c172_0)) (fun _ hk => hk.2) (.slice A172_1 ((rd_T38 l0 x12_1).f1).length c172_1)) (fun _ h_ => h_.1)))).2.2) hb); replace HL172_1 := A_ (Kd.V_below (by (with_reducible repeat (first | apply Kd.V_alloc | apply Kd.V_drewN | apply Kd.V_drew)); exact (Kd.V_mono (Kd.V_far (p := ⟨gb173, 1, none⟩) (Kd.V_far (p := ⟨gb173, 0, none⟩) (Kd.V_mono HL172_1.out (fun k_ hk => (⟨hk, hk.2⟩ : _ ∧ k_ ≠ gb173))) (fun _ hk => hk.2) (.slice A172_0 ((rd_T38 l0 x12_1).f0).length c172_0)) (fun _ hk => hk.2) (.slice A172_1 ((rd_T38 l0 x12_1).f1).length c172_1)) (fun _ h_ => h_.1))) hb); replace BK173 := A_ (kE_ (g := gb173) (o := .cells #[.slice A172_0 ((rd_T38 l0 x12_1).f0).length c172_0, .slice A172_1 ((rd_T38 l0 x12_1).f1).length c172_1] 38 (0, 0)) qp_ hb); replace HB := b1_ hb; clear hb; obtain ⟨hcz37_0, hcz37_1, hfz37_0, hfz37_1⟩ := c2_ BK165; have hcz38_0 : w36.cell? ⟨gb173, 0, none⟩ = some (.slice A172_0 ((rd_T38 l0 x12_1).f0).length c172_0) := cz0_ BK173; have hcz38_1 : w36.cell? ⟨gb173, 1, none⟩ = some (.slice A172_1 ((rd_T38 l0 x12_1).f1).length c172_1) := cz1_ BK173; have hfz38_0 := kD_ BK173.out 0; have hfz38_1 := kD_ BK173.out 1) | (go_at_call 48; (with_reducible refine (Z36.calls k1 _ _ l1_0 _ _ l1_1 _ _ ((rd_T38 l0 x12_1).f0) _ _ ((rd_T38 l0 x12_1).f1) true _ ?side1 ?side2 ?side3 ?side4 ?side5 ?side6 ?side7 ?side8 A28.out).mono ?_); (case side1 => exact cw_ ((Kd.V_reads' HO_166000.out).2.2)); (case side2 => exact (Kd.V_reads' HO_166000.out).2.1); (case side3 => exact cw_ ((Kd.V_reads' HO_166001.out).2.2)); (case side4 => exact (Kd.V_reads' HO_166001.out).2.1); (case side5 => repeat (first | exact (by repeat (first | (with_reducible exact HR172_0.out) | (with_reducible refine cA_ ?_ _) | (with_reducible refine cB_ ?_ _) | (with_reducible refine cC_ ?_) | exact HR172_0.out)) | (with_reducible first | refine cA_ ?_ _ | refine cB_ ?_ _ | refine cC_ ?_))); (case side6 => exact HC172_0.out); (case side7 => repeat (first | exact (by repeat (first | (with_reducible exact HR172_1.out) | (with_reducible refine cA_ ?_ _) | (with_reducible refine cB_ ?_ _) | (with_reducible refine cC_ ?_) | exact HR172_1.out)) | (with_reducible first | refine cA_ ?_ _ | refine cB_ ?_ _ | refine cC_ ?_))); (case side8 => exact HC172_1.out); rintro e w39 ⟨rfl, hb⟩; replace HO_5 := A_ (Kd.N_below (by (with_reducible repeat (first | apply Kd.N_alloc | apply Kd.N_drewN | apply Kd.N_drew)); exact HO_5.out) hb); replace HO_10 := A_ (Kd.V_below (by (with_reducible repeat (first | apply Kd.V_alloc | apply Kd.V_drewN | apply Kd.V_drew)); exact HO_10.out) hb); replace HO_166000 := A_ (Kd.V_below (by (with_reducible repeat (first | apply Kd.V_alloc | apply Kd.V_drewN | apply Kd.V_drew)); exact HO_166000.out) hb); replace HO_166001 := A_ (Kd.V_below (by (with_reducible repeat (first | apply Kd.V_alloc | apply Kd.V_drewN | apply Kd.V_drew)); exact HO_166001.out) hb); replace HL172_0 := A_ (Kd.V_below (by (with_reducible repeat (first | apply Kd.V_alloc | apply Kd.V_drewN | apply Kd.V_drew)); exact HL172_0.out) hb); replace HL172_1 := A_ (Kd.V_below (by (with_reducible repeat (first | apply Kd.V_alloc | apply Kd.V_drewN | apply Kd.V_drew)); exact HL172_1.out) hb); replace BK165 := bb_ BK165 hb; replace HR172_0 := A_ (cD_ (by repeat (first | (with_reducible exact HR172_0.out) | (with_reducible refine cA_ ?_ _) | (with_reducible refine cB_ ?_ _) | (with_reducible refine cC_ ?_) | exact HR172_0.out)) hb); replace HR172_1 := A_ (cD_ (by repeat (first | (with_reducible exact HR172_1.out) | (with_reducible refine cA_ ?_ _) | (with_reducible refine cB_ ?_ _) | (with_reducible refine cC_ ?_) | exact HR172_1.out)) hb); replace BK173 := bb_ BK173 hb; replace HB := b1_ hb; clear hb; obtain ⟨hcz40_0, hcz40_1, hfz40_0, hfz40_1⟩ := c2_ BK165) | ((with_reducible refine gate_builtin (b := .append) (xs := #[.tmp 26, .tmp 28]) rfl ?_); at_builtin; refine Kd.N_append k38 (w0 := w) w.heap.size rfl (.tmp 26) (.tmp 28) 28 38 (.agg #[(.slice none 0 0), (.slice none 0 0)]) 48 rfl Tryz.underlying28 info38 rfl (by decide) (by omega) u5 x5_1 (⟨l1_0, l1_1⟩ : S38) [.slice A1_0 l1_0.length c1_0, .slice A1_1 l1_1.length c1_1] (fun k_ => ((P0_ k_ ∨ P1_0_ k_ ∨ P1_1_ k_) ∨ w.heap.size ≤ k_) ∧ k_ ≠ gb165 ∧ k_ ≠ gb173) (fun k_ => ((fun k_ => ((P0_ k_ ∨ P1_0_ k_ ∨ P1_1_ k_) ∨ w.heap.size ≤ k_) ∧ k_ ≠ gb165 ∧ k_ ≠ gb173)) k_ ∧ some k_ ≠ (u5 : Value).ownBlock) rfl rfl ?aP (fun _ hk => hk) ?aF ?aO ?aB ?aS ?aL ?_; (case aP => exact (k38_mkF _ _ (⟨l1_0, l1_1⟩ : S38) (Kd.V_reads' (Kd.V_mono (ok' := (fun k_ => ((fun k_ => ((P0_ k_ ∨ P1_0_ k_ ∨ P1_1_ k_) ∨ w.heap.size ≤ k_) ∧ k_ ≠ gb165 ∧ k_ ≠ gb173)) k_ ∧ some k_ ≠ (u5 : Value).ownBlock)) (HO_166000.out) (fun k_ hk => ⟨⟨hk.1.1, ⟨hk.1.2.2, hk.2⟩⟩, hk.1.2.1⟩))).2.1 (Kd.V_F (Kd.V_mono (ok' := (fun k_ => ((fun k_ => ((P0_ k_ ∨ P1_0_ k_ ∨ P1_1_ k_) ∨ w.heap.size ≤ k_) ∧ k_ ≠ gb165 ∧ k_ ≠ gb173)) k_ ∧ some k_ ≠ (u5 : Value).ownBlock)) (HO_166000.out) (fun k_ hk => ⟨⟨hk.1.1, ⟨hk.1.2.2, hk.2⟩⟩, hk.1.2.1⟩))) (Kd.V_reads' (Kd.V_mono (ok' := (fun k_ => ((fun k_ => ((P0_ k_ ∨ P1_0_ k_ ∨ P1_1_ k_) ∨ w.heap.size ≤ k_) ∧ k_ ≠ gb165 ∧ k_ ≠ gb173)) k_ ∧ some k_ ≠ (u5 : Value).ownBlock)) (HO_166001.out) (fun k_ hk => ⟨⟨hk.1.1, ⟨hk.1.2.2, hk.2⟩⟩, hk.1.2.1⟩))).2.1 (Kd.V_F (Kd.V_mono (ok' := (fun k_ => ((fun k_ => ((P0_ k_ ∨ P1_0_ k_ ∨ P1_1_ k_) ∨ w.heap.size ≤ k_) ∧ k_ ≠ gb165 ∧ k_ ≠ gb173)) k_ ∧ some k_ ≠ (u5 : Value).ownBlock)) (HO_166001.out) (fun k_ hk => ⟨⟨hk.1.1, ⟨hk.1.2.2, hk.2⟩⟩, hk.1.2.1⟩))))); (case aB => exact hB_); (case aF => exact (fun k_ hk => ⟨(.inr (Nat.le_trans (bF_ hB_) hk)), Kd.freshB (kk_ BK165) k_ hk, Kd.freshB (kk_ BK173) k_ hk⟩)); (case aO => exact (by (with_reducible repeat (first | apply Kd.N_alloc | apply Kd.N_drewN | apply Kd.N_drew)); exact Kd.N_mono HO_5.out (fun _ hk => ⟨hk.1.1, ⟨hk.1.2, hk.2⟩⟩))); (case aS => exact (bF_ hB_)); (case aL => have := LMc30.out; omega); intro v183 w41 ho hb hg hat; rw [← Ny182.out] at ho; replace HO_10 := A_ (Kd.V_afterv (ok := (fun k_ => ((P0_ k_ ∨ P1_0_ k_ ∨ P1_1_ k_) ∨ w.heap.size ≤ k_) ∧ k_ ≠ gb165 ∧ k_ ≠ gb173)) (by (with_reducible repeat (first | apply Kd.V_alloc | apply Kd.V_drewN | apply Kd.V_drew)); exact Kd.V_mono HO_10.out (fun _ hk => ⟨⟨hk.1.1, ⟨hk.1.2.2, hk.2⟩⟩, hk.1.2.1⟩)) hg hat); replace HO_166000 := A_ (Kd.V_afterv (ok := (fun k_ => ((P0_ k_ ∨ P1_0_ k_ ∨ P1_1_ k_) ∨ w.heap.size ≤ k_) ∧ k_ ≠ gb165 ∧ k_ ≠ gb173)) (by (with_reducible repeat (first | apply Kd.V_alloc | apply Kd.V_drewN | apply Kd.V_drew)); exact Kd.V_mono HO_166000.out (fun _ hk => ⟨⟨hk.1.1, ⟨hk.1.2.2, hk.2⟩⟩, hk.1.2.1⟩)) hg hat); replace HO_166001 := A_ (Kd.V_afterv (ok := (fun k_ => ((P0_ k_ ∨ P1_0_ k_ ∨ P1_1_ k_) ∨ w.heap.size ≤ k_) ∧ k_ ≠ gb165 ∧ k_ ≠ gb173)) (by (with_reducible repeat (first | apply Kd.V_alloc | apply Kd.V_drewN | apply Kd.V_drew)); exact Kd.V_mono HO_166001.out (fun _ hk => ⟨⟨hk.1.1, ⟨hk.1.2.2, hk.2⟩⟩, hk.1.2.1⟩)) hg hat); replace BK165 := A_ (blk_grown (kk_ BK165) hg (Kd.N_away HO_5.out (fun _ hk => hk.1.2))); replace HL172_0 := A_ (Kd.V_afterv (ok := (fun k_ => ((P0_ k_ ∨ P1_0_ k_ ∨ P1_1_ k_) ∨ w.heap.size ≤ k_) ∧ k_ ≠ gb165 ∧ k_ ≠ gb173)) (by (with_reducible repeat (first | apply Kd.V_alloc | apply Kd.V_drewN | apply Kd.V_drew)); exact Kd.V_mono HL172_0.out (fun _ hk => ⟨⟨hk.1.1, ⟨hk.1.2.2, hk.2⟩⟩, hk.1.2.1⟩)) hg hat); replace HL172_1 := A_ (Kd.V_afterv (ok := (fun k_ => ((P0_ k_ ∨ P1_0_ k_ ∨ P1_1_ k_) ∨ w.heap.size ≤ k_) ∧ k_ ≠ gb165 ∧ k_ ≠ gb173)) (by (with_reducible repeat (first | apply Kd.V_alloc | apply Kd.V_drewN | apply Kd.V_drew)); exact Kd.V_mono HL172_1.out (fun _ hk => ⟨⟨hk.1.1, ⟨hk.1.2.2, hk.2⟩⟩, hk.1.2.1⟩)) hg hat); replace BK173 := A_ (blk_grown (kk_ BK173) hg (Kd.N_away HO_5.out (fun _ hk => hk.2))); replace HB := A_ hb; have HO184 := A_ ho; clear HO_5; clear ho hb hg hat; have hcz42_0 : w41.cell? ⟨gb173, 0, none⟩ = some (.slice A172_0 ((rd_T38 l0 x12_1).f0).length c172_0) := cz0_ BK173; have hcz42_1 : w41.cell? ⟨gb173, 1, none⟩ = some (.slice A172_1 ((rd_T38 l0 x12_1).f1).length c172_1) := cz1_ BK173; have hfz42_0 := kD_ BK173.out 0; have hfz42_1 := kD_ BK173.out 1) | ((with_reducible refine gate_builtin (b := .append) (xs := #[.tmp 30, .tmp 32]) rfl ?_); at_builtin; refine Kd.N_append k38 (w0 := w) w.heap.size rfl (.tmp 30) (.tmp 32) 28 38 (.agg #[(.slice none 0 0), (.slice none 0 0)]) 48 rfl Tryz.underlying28 info38 rfl (by decide) (by omega) v183 y182 (⟨(rd_T38 l0 x12_1).f0, (rd_T38 l0 x12_1).f1⟩ : S38) [.slice A172_0 ((rd_T38 l0 x12_1).f0).length c172_0, .slice A172_1 ((rd_T38 l0 x12_1).f1).length c172_1] (fun k_ => ((P0_ k_ ∨ P1_0_ k_ ∨ P1_1_ k_) ∨ w.heap.size ≤ k_) ∧ k_ ≠ gb165 ∧ k_ ≠ gb173) (fun k_ => ((fun k_ => ((P0_ k_ ∨ P1_0_ k_ ∨ P1_1_ k_) ∨ w.heap.size ≤ k_) ∧ k_ ≠ gb165 ∧ k_ ≠ gb173)) k_ ∧ some k_ ≠ (v183 : Value).ownBlock) rfl rfl ?aP (fun _ hk => hk) ?aF ?aO ?aB ?aS ?aL ?_; (case aP => exact (k38_mkF _ _ (⟨(rd_T38 l0 x12_1).f0, (rd_T38 l0 x12_1).f1⟩ : S38) (Kd.V_reads' (Kd.V_mono (ok' := (fun k_ => ((fun k_ => ((P0_ k_ ∨ P1_0_ k_ ∨ P1_1_ k_) ∨ w.heap.size ≤ k_) ∧ k_ ≠ gb165 ∧ k_ ≠ gb173)) k_ ∧ some k_ ≠ (v183 : Value).ownBlock)) (HL172_0.out) (fun k_ hk => ⟨⟨hk.1.1, ⟨hk.1.2.1, hk.1.2.2⟩⟩, hk.2⟩))).2.1 (Kd.V_F (Kd.V_mono (ok' := (fun k_ => ((fun k_ => ((P0_ k_ ∨ P1_0_ k_ ∨ P1_1_ k_) ∨ w.heap.size ≤ k_) ∧ k_ ≠ gb165 ∧ k_ ≠ gb173)) k_ ∧ some k_ ≠ (v183 : Value).ownBlock)) (HL172_0.out) (fun k_ hk => ⟨⟨hk.1.1, ⟨hk.1.2.1, hk.1.2.2⟩⟩, hk.2⟩))) (Kd.V_reads' (Kd.V_mono (ok' := (fun k_ => ((fun k_ => ((P0_ k_ ∨ P1_0_ k_ ∨ P1_1_ k_) ∨ w.heap.size ≤ k_) ∧ k_ ≠ gb165 ∧ k_ ≠ gb173)) k_ ∧ some k_ ≠ (v183 : Value).ownBlock)) (HL172_1.out) (fun k_ hk => ⟨⟨hk.1.1, ⟨hk.1.2.1, hk.1.2.2⟩⟩, hk.2⟩))).2.1 (Kd.V_F (Kd.V_mono (ok' := (fun k_ => ((fun k_ => ((P0_ k_ ∨ P1_0_ k_ ∨ P1_1_ k_) ∨ w.heap.size ≤ k_) ∧ k_ ≠ gb165 ∧ k_ ≠ gb173)) k_ ∧ some k_ ≠ (v183 : Value).ownBlock)) (HL172_1.out) (fun k_ hk => ⟨⟨hk.1.1, ⟨hk.1.2.1, hk.1.2.2⟩⟩, hk.2⟩))))); (case aB => exact hB_); (case aF => exact (fun k_ hk => ⟨(.inr (Nat.le_trans (bF_ hB_) hk)), Kd.freshB (kk_ BK165) k_ hk, Kd.freshB (kk_ BK173) k_ hk⟩)); (case aO => exact (by (with_reducible repeat (first | apply Kd.N_alloc | apply Kd.N_drewN | apply Kd.N_drew)); exact HO184.out)); (case aS => exact (bF_ hB_)); (case aL => have := LMc31.out; omega); intro v186 w43 ho hb hg hat; rw [← Ny185.out] at ho; replace HO_10 := A_ (Kd.V_afterv (ok := (fun k_ => ((P0_ k_ ∨ P1_0_ k_ ∨ P1_1_ k_) ∨ w.heap.size ≤ k_) ∧ k_ ≠ gb165 ∧ k_ ≠ gb173)) (by (with_reducible repeat (first | apply Kd.V_alloc | apply Kd.V_drewN | apply Kd.V_drew)); exact HO_10.out) hg hat); replace HO_166000 := A_ (Kd.V_afterv (ok := (fun k_ => ((P0_ k_ ∨ P1_0_ k_ ∨ P1_1_ k_) ∨ w.heap.size ≤ k_) ∧ k_ ≠ gb165 ∧ k_ ≠ gb173)) (by (with_reducible repeat (first | apply Kd.V_alloc | apply Kd.V_drewN | apply Kd.V_drew)); exact HO_166000.out) hg hat); replace HO_166001 := A_ (Kd.V_afterv (ok := (fun k_ => ((P0_ k_ ∨ P1_0_ k_ ∨ P1_1_ k_) ∨ w.heap.size ≤ k_) ∧ k_ ≠ gb165 ∧ k_ ≠ gb173)) (by (with_reducible repeat (first | apply Kd.V_alloc | apply Kd.V_drewN | apply Kd.V_drew)); exact HO_166001.out) hg hat); replace BK165 := A_ (blk_grown (kk_ BK165) hg (Kd.N_away HO184.out (fun _ hk => hk.2.1))); replace HL172_0 := A_ (Kd.V_afterv (ok := (fun k_ => ((P0_ k_ ∨ P1_0_ k_ ∨ P1_1_ k_) ∨ w.heap.size ≤ k_) ∧ k_ ≠ gb165 ∧ k_ ≠ gb173)) (by (with_reducible repeat (first | apply Kd.V_alloc | apply Kd.V_drewN | apply Kd.V_drew)); exact HL172_0.out) hg hat); replace HL172_1 := A_ (Kd.V_afterv (ok := (fun k_ => ((P0_ k_ ∨ P1_0_ k_ ∨ P1_1_ k_) ∨ w.heap.size ≤ k_) ∧ k_ ≠ gb165 ∧ k_ ≠ gb173)) (by (with_reducible repeat (first | apply Kd.V_alloc | apply Kd.V_drewN | apply Kd.V_drew)); exact HL172_1.out) hg hat); replace BK173 := A_ (blk_grown (kk_ BK173) hg (Kd.N_away HO184.out (fun _ hk => hk.2.2))); replace HB := A_ hb; have HO187 := A_ ho; clear HO184; clear ho hb hg hat))
       go_roundg k1
       case measure => have := HK1.out; omega
       case rel => exact ⟨(y185), (true), (wrap64 (x12_1 + 1)), qc_, qc_, H', ⟨by have := HK1.out; omega⟩, ⟨by (with_reducible repeat (first | apply Kd.N_alloc | apply Kd.N_drewN | apply Kd.N_drew)); exact Kd.N_mono HO187.out (fun _ hk => ⟨hk.1, hk.2.1⟩)⟩, ⟨by (with_reducible repeat (first | apply Kd.V_alloc | apply Kd.V_drewN | apply Kd.V_drew)); exact Kd.V_mono HO_10.out (fun _ hk => ⟨hk.1.1, ⟨hk.2, hk.1.2.1⟩⟩)⟩, ⟨by (with_reducible repeat (first | apply Kd.V_alloc | apply Kd.V_drewN | apply Kd.V_drew)); exact Kd.V_mono HO_166000.out (fun _ hk => ⟨hk.1.1, ⟨hk.2, hk.1.2.1⟩⟩)⟩, ⟨by (with_reducible repeat (first | apply Kd.V_alloc | apply Kd.V_drewN | apply Kd.V_drew)); exact Kd.V_mono HO_166001.out (fun _ hk => ⟨hk.1.1, ⟨hk.2, hk.1.2.1⟩⟩)⟩, ⟨(kk_ BK165)⟩, ⟨hB_⟩⟩
      ·replace c29 := Bool.eq_false_iff.mpr c29
       subst c29
       have H1 : (if x5_1.length < 2932031007402 then (Z39.l0 k1 (x5_1 ++ [(⟨(rd_T38 l0 x12_1).f0, (rd_T38 l0 x12_1).f1⟩ : S38)]) false l0 (l0.length : Int) (wrap64 (x12_1 + 1)) l1_0 l1_1) else (none)) = some r := by rw [if_neg (show ¬ (false = true) by decide)] at H; exact H
       clear H
       have H := H1
       clear H1
       have c44 := cp_ H
       replace H := ca_ H
       have LMc44 := A_ c44
       clear c44
       obtain ⟨y188, hy188⟩ : ∃ y_ : List (S38), y_ = (x5_1 ++ [(⟨(rd_T38 l0 x12_1).f0, (rd_T38 l0 x12_1).f1⟩ : S38)]) := ⟨_, rfl⟩
       replace H : (Z39.l0 k1 y188 false l0 (l0.length : Int) (wrap64 (x12_1 + 1)) l1_0 l1_1) = some r := by first | (rw [hy188]; exact H) | exact H
       have Ny188 := A_ hy188
       clear hy188
       have H' := A_ H
       clear H
       have p172 : 0 ≤ (x12_1 : Int) := oB_ qe_
       have q172 : x12_1 < (l0.length : Int) := oB_ qe_
       obtain ⟨ad172, A172_0, c172_0, A172_1, c172_1, e172, hx172_0, hx172_1, hl172_0, hi172_0, hl172_1, hi172_1⟩ := at_T38 (Kd.V_reads' HO_10.out).2.2 x12_1 p172 q172
       cases e172
       obtain ⟨ce172, hce172, hMe172, hcc172⟩ := Kd.V_get HO_10.out z38 x12_1 p172 (by first | exact q172 | exact oB_ qe_ | (have e_ := (Kd.V_reads' HO_10.out).1; omega))
       obtain ⟨ua172_0, uc172_0, ua172_1, uc172_1, rfl, ul172_0, ge172_0, ul172_1, ge172_1⟩ := k38_openF hMe172
       have hv172_0 := hcc172 0 _ rfl
       rw [Nat.add_zero] at hv172_0
       replace hv172_0 := Option.some.inj (hv172_0.symm.trans hx172_0)
       injection hv172_0 with hva_ hvn_ hvc_
       rw [hva_] at ge172_0
       rw [hvc_] at ul172_0
       have HL172_0 := A_ (show Kd.V (Kd.int .i64) 3 _ w.heap.size _ _ ((rd_T38 l0 x12_1).f0) from Kd.V_mk ul172_0 ge172_0)
       clear hva_ hvn_ hvc_ ge172_0 ul172_0
       have hv172_1 := hcc172 1 _ rfl
       rw [add_field _ _ 1 (by omega)] at hv172_1
       replace hv172_1 := Option.some.inj (hv172_1.symm.trans hx172_1)
       injection hv172_1 with hva_ hvn_ hvc_
       rw [hva_] at ge172_1
       rw [hvc_] at ul172_1
       have HL172_1 := A_ (show Kd.V (Kd.int .i64) 3 _ w.heap.size _ _ ((rd_T38 l0 x12_1).f1) from Kd.V_mk ul172_1 ge172_1)
       clear hva_ hvn_ hvc_ ge172_1 ul172_1
       clear hcc172 hce172
       have HR172_0 := A_ hi172_0
       have HC172_0 := A_ hl172_0
       clear hi172_0 hl172_0
       have HR172_1 := A_ hi172_1
       have HC172_1 := A_ hl172_1
       clear hi172_1 hl172_1
       replace p172 := eq_true p172
       replace q172 := eq_true q172
       go_wp2_with (first | ((with_reducible refine gB_ (N := 8) rfl ?_); refine bx_ 8 #[.slice none 0 0, .slice none 0 0] 38 ?_; intro gb173 hg w45 hbox hb; replace HO_5 := A_ (Kd.N_below (Kd.N_elderB (by (with_reducible repeat (first | apply Kd.N_alloc | apply Kd.N_drewN | apply Kd.N_drew)); exact HO_5.out) gb173 (Nat.le_of_eq hg.symm)) hb); replace HO_10 := A_ (Kd.V_below (Kd.V_elderB (by (with_reducible repeat (first | apply Kd.V_alloc | apply Kd.V_drewN | apply Kd.V_drew)); exact HO_10.out) gb173 (Nat.le_of_eq hg.symm)) hb); replace HO_166000 := A_ (Kd.V_below (Kd.V_elderB (by (with_reducible repeat (first | apply Kd.V_alloc | apply Kd.V_drewN | apply Kd.V_drew)); exact HO_166000.out) gb173 (Nat.le_of_eq hg.symm)) hb); replace HO_166001 := A_ (Kd.V_below (Kd.V_elderB (by (with_reducible repeat (first | apply Kd.V_alloc | apply Kd.V_drewN | apply Kd.V_drew)); exact HO_166001.out) gb173 (Nat.le_of_eq hg.symm)) hb); replace HL172_0 := A_ (Kd.V_below (Kd.V_elderB (by (with_reducible repeat (first | apply Kd.V_alloc | apply Kd.V_drewN | apply Kd.V_drew)); exact HL172_0.out) gb173 (Nat.le_of_eq hg.symm)) hb); replace HL172_1 := A_ (Kd.V_below (Kd.V_elderB (by (with_reducible repeat (first | apply Kd.V_alloc | apply Kd.V_drewN | apply Kd.V_drew)); exact HL172_1.out) gb173 (Nat.le_of_eq hg.symm)) hb); replace HR172_0 := A_ (cD_ (by repeat (first | (with_reducible exact HR172_0.out) | (with_reducible refine cA_ ?_ _) | (with_reducible refine cB_ ?_ _) | (with_reducible refine cC_ ?_) | exact HR172_0.out)) hb); replace HR172_1 := A_ (cD_ (by repeat (first | (with_reducible exact HR172_1.out) | (with_reducible refine cA_ ?_ _) | (with_reducible refine cB_ ?_ _) | (with_reducible refine cC_ ?_) | exact HR172_1.out)) hb); have BK173 := A_ hbox; have GW173 := gw_ w hg; have GE173 := GW173; replace HB := b1_ hb; have NB165_173 := gN_ BK165 hg; have NB173_165 := gP_ BK165 hg; replace BK165 := bb_ BK165 hb; clear hb hbox hg; have hnb46 := NB173_165.out; have hnc46 := NB165_173.out; obtain ⟨hcz47_0, hcz47_1, hfz47_0, hfz47_1⟩ := c2_ BK173; obtain ⟨hcz48_0, hcz48_1, hfz48_0, hfz48_1⟩ := c2_ BK165) | ((with_reducible refine gA_ (f := 47) rfl ?_); refine gL_ (some 18) Tryz.func47 #[.agg #[.slice A172_0 ((rd_T38 l0 x12_1).f0).length c172_0, .slice A172_1 ((rd_T38 l0 x12_1).f1).length c172_1], .agg #[.slice A1_0 l1_0.length c1_0, .slice A1_1 l1_1.length c1_1]] rfl qa_ ?_; (with_reducible refine (Z17.calls k1 _ _ ((rd_T38 l0 x12_1).f0) _ _ ((rd_T38 l0 x12_1).f1) _ _ l1_0 _ _ l1_1 false _ ?side1 ?side2 ?side3 ?side4 ?side5 ?side6 ?side7 ?side8 A9.out).mono ?_); (case side1 => repeat (first | exact ((Kd.V_reads' (by (with_reducible repeat (first | apply Kd.V_alloc | apply Kd.V_drewN | apply Kd.V_drew)); exact (Kd.V_mono (Kd.V_far (p := ⟨gb173, 1, none⟩) (Kd.V_far (p := ⟨gb173, 0, none⟩) (Kd.V_mono HL172_0.out (fun k_ hk => (⟨hk, hk.2⟩ : _ ∧ k_ ≠ gb173))) (fun _ hk => hk.2) (.slice A172_0 ((rd_T38 l0 x12_1).f0).length c172_0)) (fun _ hk => hk.2) (.slice A172_1 ((rd_T38 l0 x12_1).f1).length c172_1)) (fun _ h_ => h_.1)))).2.2) | (with_reducible first | refine cA_ ?_ _ | refine cB_ ?_ _ | refine cC_ ?_))); (case side2 => exact HC172_0.out); (case side3 => repeat (first | exact ((Kd.V_reads' (by (with_reducible repeat (first | apply Kd.V_alloc | apply Kd.V_drewN | apply Kd.V_drew)); exact (Kd.V_mono (Kd.V_far (p := ⟨gb173, 1, none⟩) (Kd.V_far (p := ⟨gb173, 0, none⟩) (Kd.V_mono HL172_1.out (fun k_ hk => (⟨hk, hk.2⟩ : _ ∧ k_ ≠ gb173))) (fun _ hk => hk.2) (.slice A172_0 ((rd_T38 l0 x12_1).f0).length c172_0)) (fun _ hk => hk.2) (.slice A172_1 ((rd_T38 l0 x12_1).f1).length c172_1)) (fun _ h_ => h_.1)))).2.2) | (with_reducible first | refine cA_ ?_ _ | refine cB_ ?_ _ | refine cC_ ?_))); (case side4 => exact HC172_1.out); (case side5 => refine (Kd.V_reads' (e := 3) (base := w.heap.size) (ok := fun k_ => ((((P0_ k_ ∨ P1_0_ k_ ∨ P1_1_ k_) ∨ w.heap.size ≤ k_) ∧ (some k_ ≠ (u5 : Value).ownBlock ∧ k_ ≠ gb165)) ∧ k_ ≠ gb173)) (n := l1_0.length) (c := c1_0) ?_).2.2; exact (by (with_reducible repeat (first | apply Kd.V_alloc | apply Kd.V_drewN | apply Kd.V_drew)); exact (Kd.V_mono (Kd.V_far (p := ⟨gb173, 1, none⟩) (Kd.V_far (p := ⟨gb173, 0, none⟩) (Kd.V_mono HO_166000.out (fun k_ hk => (⟨hk, hk.2⟩ : _ ∧ k_ ≠ gb173))) (fun _ hk => hk.2) (.slice A172_0 ((rd_T38 l0 x12_1).f0).length c172_0)) (fun _ hk => hk.2) (.slice A172_1 ((rd_T38 l0 x12_1).f1).length c172_1)) (fun _ h_ => h_.1)))); (case side6 => exact (Kd.V_reads' HO_166000.out).2.1); (case side7 => refine (Kd.V_reads' (e := 3) (base := w.heap.size) (ok := fun k_ => ((((P0_ k_ ∨ P1_0_ k_ ∨ P1_1_ k_) ∨ w.heap.size ≤ k_) ∧ (some k_ ≠ (u5 : Value).ownBlock ∧ k_ ≠ gb165)) ∧ k_ ≠ gb173)) (n := l1_1.length) (c := c1_1) ?_).2.2; exact (by (with_reducible repeat (first | apply Kd.V_alloc | apply Kd.V_drewN | apply Kd.V_drew)); exact (Kd.V_mono (Kd.V_far (p := ⟨gb173, 1, none⟩) (Kd.V_far (p := ⟨gb173, 0, none⟩) (Kd.V_mono HO_166001.out (fun k_ hk => (⟨hk, hk.2⟩ : _ ∧ k_ ≠ gb173))) (fun _ hk => hk.2) (.slice A172_0 ((rd_T38 l0 x12_1).f0).length c172_0)) (fun _ hk => hk.2) (.slice A172_1 ((rd_T38 l0 x12_1).f1).length c172_1)) (fun _ h_ => h_.1)))); (case side8 => exact (Kd.V_reads' HO_166001.out).2.1); rintro e w49 ⟨rfl, hb⟩; refine ⟨_, rfl, ?_⟩; replace HO_5 := A_ (Kd.N_below (by (with_reducible repeat (first | apply Kd.N_alloc | apply Kd.N_drewN | apply Kd.N_drew)); exact (Kd.N_mono (Kd.N_far (p := ⟨gb173, 1, none⟩) (Kd.N_far (p := ⟨gb173, 0, none⟩) (Kd.N_mono HO_5.out (fun k_ hk => (⟨hk, hk.2⟩ : _ ∧ k_ ≠ gb173))) (fun _ hk => hk.2) (.slice A172_0 ((rd_T38 l0 x12_1).f0).length c172_0)) (fun _ hk => hk.2) (.slice A172_1 ((rd_T38 l0 x12_1).f1).length c172_1)) (fun _ h_ => h_.1))) hb); replace HO_10 := A_ (Kd.V_below (by (with_reducible repeat (first | apply Kd.V_alloc | apply Kd.V_drewN | apply Kd.V_drew)); exact (Kd.V_mono (Kd.V_far (p := ⟨gb173, 1, none⟩) (Kd.V_far (p := ⟨gb173, 0, none⟩) (Kd.V_mono HO_10.out (fun k_ hk => (⟨hk, hk.2⟩ : _ ∧ k_ ≠ gb173))) (fun _ hk => hk.2) (.slice A172_0 ((rd_T38 l0 x12_1).f0).length c172_0)) (fun _ hk => hk.2) (.slice A172_1 ((rd_T38 l0 x12_1).f1).length c172_1)) (fun _ h_ => h_.1))) hb); replace HO_166000 := A_ (Kd.V_below (by (with_reducible repeat (first | apply Kd.V_alloc | apply Kd.V_drewN | apply Kd.V_drew)); exact (Kd.V_mono (Kd.V_far (p := ⟨gb173, 1, none⟩) (Kd.V_far (p := ⟨gb173, 0, none⟩) (Kd.V_mono HO_166000.out (fun k_ hk => (⟨hk, hk.2⟩ : _ ∧ k_ ≠ gb173))) (fun _ hk => hk.2) (.slice A172_0 ((rd_T38 l0 x12_1).f0).length c172_0)) (fun _ hk => hk.2) (.slice A172_1 ((rd_T38 l0 x12_1).f1).length c172_1)) (fun _ h_ => h_.1))) hb); replace HO_166001 := A_ (Kd.V_below (by (with_reducible repeat (first | apply Kd.V_alloc | apply Kd.V_drewN | apply Kd.V_drew)); exact (Kd.V_mono (Kd.V_far (p := ⟨gb173, 1, none⟩) (Kd.V_far (p := ⟨gb173, 0, none⟩) (Kd.V_mono HO_166001.out (fun k_ hk => (⟨hk, hk.2⟩ : _ ∧ k_ ≠ gb173))) (fun _ hk => hk.2) (.slice A172_0 ((rd_T38 l0 x12_1).f0).length c172_0)) (fun _ hk => hk.2) (.slice A172_1 ((rd_T38 l0 x12_1).f1).length c172_1)) (fun _ h_ => h_.1))) hb); replace BK165 := A_ (kE_ (g := gb165) (o := .cells #[.slice A1_0 l1_0.length c1_0, .slice A1_1 l1_1.length c1_1] 38 (0, 0)) (by (with_reducible repeat (first | refine kA_ ?_ _ | refine kB_ ?_ | refine kC_ ?_ _)); refine blk_far ?_ NB165_173.out _; (with_reducible repeat (first | refine kA_ ?_ _ | refine kB_ ?_ | refine kC_ ?_ _)); refine blk_far ?_ NB165_173.out _; (with_reducible repeat (first | refine kA_ ?_ _ | refine kB_ ?_ | refine kC_ ?_ _)); exact BK165.out) hb); replace HR172_0 := A_ (cD_ ((Kd.V_reads' (by (with_reducible repeat (first | apply Kd.V_alloc | apply Kd.V_drewN | apply Kd.V_drew)); exact (Kd.V_mono (Kd.V_far (p := ⟨gb173, 1, none⟩) (Kd.V_far (p := ⟨gb173, 0, none⟩) (Kd.V_mono HL172_0.out (fun k_ hk => (⟨hk, hk.2⟩ : _ ∧ k_ ≠ gb173))) (fun _ hk => hk.2) (.slice A172_0 ((rd_T38 l0 x12_1).f0).length c172_0)) (fun _ hk => hk.2) (.slice A172_1 ((rd_T38 l0 x12_1).f1).length c172_1)) (fun _ h_ => h_.1)))).2.2) hb); replace HL172_0 := A_ (Kd.V_below (by (with_reducible repeat (first | apply Kd.V_alloc | apply Kd.V_drewN | apply Kd.V_drew)); exact (Kd.V_mono (Kd.V_far (p := ⟨gb173, 1, none⟩) (Kd.V_far (p := ⟨gb173, 0, none⟩) (Kd.V_mono HL172_0.out (fun k_ hk => (⟨hk, hk.2⟩ : _ ∧ k_ ≠ gb173))) (fun _ hk => hk.2) (.slice A172_0 ((rd_T38 l0 x12_1).f0).length c172_0)) (fun _ hk => hk.2) (.slice A172_1 ((rd_T38 l0 x12_1).f1).length c172_1)) (fun _ h_ => h_.1))) hb); replace HR172_1 := A_ (cD_ ((Kd.V_reads' (by (with_reducible repeat (first | apply Kd.V_alloc | apply Kd.V_drewN | apply Kd.V_drew)); exact (Kd.V_mono (Kd.V_far (p := ⟨gb173, 1, none⟩) (Kd.V_far (p := ⟨gb173, 0, none⟩) (Kd.V_mono HL172_1.out (fun k_ hk => (⟨hk, hk.2⟩ : _ ∧ k_ ≠ gb173))) (fun _ hk => hk.2) (.slice A172_0 ((rd_T38 l0 x12_1).f0).length c172_0)) (fun _ hk => hk.2) (.slice A172_1 ((rd_T38 l0 x12_1).f1).length c172_1)) (fun _ h_ => h_.1)))).2.2) hb); replace HL172_1 := A_ (Kd.V_below (by (with_reducible repeat (first | apply Kd.V_alloc | apply Kd.V_drewN | apply Kd.V_drew)); exact (Kd.V_mono (Kd.V_far (p := ⟨gb173, 1, none⟩) (Kd.V_far (p := ⟨gb173, 0, none⟩) (Kd.V_mono HL172_1.out (fun k_ hk => (⟨hk, hk.2⟩ : _ ∧ k_ ≠ gb173))) (fun _ hk => hk.2) (.slice A172_0 ((rd_T38 l0 x12_1).f0).length c172_0)) (fun _ hk => hk.2) (.slice A172_1 ((rd_T38 l0 x12_1).f1).length c172_1)) (fun _ h_ => h_.1))) hb); replace BK173 := A_ (kE_ (g := gb173) (o := .cells #[.slice A172_0 ((rd_T38 l0 x12_1).f0).length c172_0, .slice A172_1 ((rd_T38 l0 x12_1).f1).length c172_1] 38 (0, 0)) qp_ hb); replace HB := b1_ hb; clear hb; obtain ⟨hcz50_0, hcz50_1, hfz50_0, hfz50_1⟩ := c2_ BK165; have hcz51_0 : w49.cell? ⟨gb173, 0, none⟩ = some (.slice A172_0 ((rd_T38 l0 x12_1).f0).length c172_0) := cz0_ BK173; have hcz51_1 : w49.cell? ⟨gb173, 1, none⟩ = some (.slice A172_1 ((rd_T38 l0 x12_1).f1).length c172_1) := cz1_ BK173; have hfz51_0 := kD_ BK173.out 0; have hfz51_1 := kD_ BK173.out 1) | (go_at_call 48; (with_reducible refine (Z36.calls k1 _ _ l1_0 _ _ l1_1 _ _ ((rd_T38 l0 x12_1).f0) _ _ ((rd_T38 l0 x12_1).f1) false _ ?side1 ?side2 ?side3 ?side4 ?side5 ?side6 ?side7 ?side8 A28.out).mono ?_); (case side1 => exact cw_ ((Kd.V_reads' HO_166000.out).2.2)); (case side2 => exact (Kd.V_reads' HO_166000.out).2.1); (case side3 => exact cw_ ((Kd.V_reads' HO_166001.out).2.2)); (case side4 => exact (Kd.V_reads' HO_166001.out).2.1); (case side5 => repeat (first | exact (by repeat (first | (with_reducible exact HR172_0.out) | (with_reducible refine cA_ ?_ _) | (with_reducible refine cB_ ?_ _) | (with_reducible refine cC_ ?_) | exact HR172_0.out)) | (with_reducible first | refine cA_ ?_ _ | refine cB_ ?_ _ | refine cC_ ?_))); (case side6 => exact HC172_0.out); (case side7 => repeat (first | exact (by repeat (first | (with_reducible exact HR172_1.out) | (with_reducible refine cA_ ?_ _) | (with_reducible refine cB_ ?_ _) | (with_reducible refine cC_ ?_) | exact HR172_1.out)) | (with_reducible first | refine cA_ ?_ _ | refine cB_ ?_ _ | refine cC_ ?_))); (case side8 => exact HC172_1.out); rintro e w52 ⟨rfl, hb⟩; replace HO_5 := A_ (Kd.N_below (by (with_reducible repeat (first | apply Kd.N_alloc | apply Kd.N_drewN | apply Kd.N_drew)); exact HO_5.out) hb); replace HO_10 := A_ (Kd.V_below (by (with_reducible repeat (first | apply Kd.V_alloc | apply Kd.V_drewN | apply Kd.V_drew)); exact HO_10.out) hb); replace HO_166000 := A_ (Kd.V_below (by (with_reducible repeat (first | apply Kd.V_alloc | apply Kd.V_drewN | apply Kd.V_drew)); exact HO_166000.out) hb); replace HO_166001 := A_ (Kd.V_below (by (with_reducible repeat (first | apply Kd.V_alloc | apply Kd.V_drewN | apply Kd.V_drew)); exact HO_166001.out) hb); replace HL172_0 := A_ (Kd.V_below (by (with_reducible repeat (first | apply Kd.V_alloc | apply Kd.V_drewN | apply Kd.V_drew)); exact HL172_0.out) hb); replace HL172_1 := A_ (Kd.V_below (by (with_reducible repeat (first | apply Kd.V_alloc | apply Kd.V_drewN | apply Kd.V_drew)); exact HL172_1.out) hb); replace BK165 := bb_ BK165 hb; replace HR172_0 := A_ (cD_ (by repeat (first | (with_reducible exact HR172_0.out) | (with_reducible refine cA_ ?_ _) | (with_reducible refine cB_ ?_ _) | (with_reducible refine cC_ ?_) | exact HR172_0.out)) hb); replace HR172_1 := A_ (cD_ (by repeat (first | (with_reducible exact HR172_1.out) | (with_reducible refine cA_ ?_ _) | (with_reducible refine cB_ ?_ _) | (with_reducible refine cC_ ?_) | exact HR172_1.out)) hb); replace BK173 := bb_ BK173 hb; replace HB := b1_ hb; clear hb; have hcz53_0 : w52.cell? ⟨gb173, 0, none⟩ = some (.slice A172_0 ((rd_T38 l0 x12_1).f0).length c172_0) := cz0_ BK173; have hcz53_1 : w52.cell? ⟨gb173, 1, none⟩ = some (.slice A172_1 ((rd_T38 l0 x12_1).f1).length c172_1) := cz1_ BK173; have hfz53_0 := kD_ BK173.out 0; have hfz53_1 := kD_ BK173.out 1) | ((with_reducible refine gate_builtin (b := .append) (xs := #[.tmp 30, .tmp 32]) rfl ?_); at_builtin; refine Kd.N_append k38 (w0 := w) w.heap.size rfl (.tmp 30) (.tmp 32) 28 38 (.agg #[(.slice none 0 0), (.slice none 0 0)]) 48 rfl Tryz.underlying28 info38 rfl (by decide) (by omega) u5 x5_1 (⟨(rd_T38 l0 x12_1).f0, (rd_T38 l0 x12_1).f1⟩ : S38) [.slice A172_0 ((rd_T38 l0 x12_1).f0).length c172_0, .slice A172_1 ((rd_T38 l0 x12_1).f1).length c172_1] (fun k_ => ((P0_ k_ ∨ P1_0_ k_ ∨ P1_1_ k_) ∨ w.heap.size ≤ k_) ∧ k_ ≠ gb165 ∧ k_ ≠ gb173) (fun k_ => ((fun k_ => ((P0_ k_ ∨ P1_0_ k_ ∨ P1_1_ k_) ∨ w.heap.size ≤ k_) ∧ k_ ≠ gb165 ∧ k_ ≠ gb173)) k_ ∧ some k_ ≠ (u5 : Value).ownBlock) rfl rfl ?aP (fun _ hk => hk) ?aF ?aO ?aB ?aS ?aL ?_; (case aP => exact (k38_mkF _ _ (⟨(rd_T38 l0 x12_1).f0, (rd_T38 l0 x12_1).f1⟩ : S38) (Kd.V_reads' (Kd.V_mono (ok' := (fun k_ => ((fun k_ => ((P0_ k_ ∨ P1_0_ k_ ∨ P1_1_ k_) ∨ w.heap.size ≤ k_) ∧ k_ ≠ gb165 ∧ k_ ≠ gb173)) k_ ∧ some k_ ≠ (u5 : Value).ownBlock)) (HL172_0.out) (fun k_ hk => ⟨⟨hk.1.1, ⟨hk.1.2.2, hk.2⟩⟩, hk.1.2.1⟩))).2.1 (Kd.V_F (Kd.V_mono (ok' := (fun k_ => ((fun k_ => ((P0_ k_ ∨ P1_0_ k_ ∨ P1_1_ k_) ∨ w.heap.size ≤ k_) ∧ k_ ≠ gb165 ∧ k_ ≠ gb173)) k_ ∧ some k_ ≠ (u5 : Value).ownBlock)) (HL172_0.out) (fun k_ hk => ⟨⟨hk.1.1, ⟨hk.1.2.2, hk.2⟩⟩, hk.1.2.1⟩))) (Kd.V_reads' (Kd.V_mono (ok' := (fun k_ => ((fun k_ => ((P0_ k_ ∨ P1_0_ k_ ∨ P1_1_ k_) ∨ w.heap.size ≤ k_) ∧ k_ ≠ gb165 ∧ k_ ≠ gb173)) k_ ∧ some k_ ≠ (u5 : Value).ownBlock)) (HL172_1.out) (fun k_ hk => ⟨⟨hk.1.1, ⟨hk.1.2.2, hk.2⟩⟩, hk.1.2.1⟩))).2.1 (Kd.V_F (Kd.V_mono (ok' := (fun k_ => ((fun k_ => ((P0_ k_ ∨ P1_0_ k_ ∨ P1_1_ k_) ∨ w.heap.size ≤ k_) ∧ k_ ≠ gb165 ∧ k_ ≠ gb173)) k_ ∧ some k_ ≠ (u5 : Value).ownBlock)) (HL172_1.out) (fun k_ hk => ⟨⟨hk.1.1, ⟨hk.1.2.2, hk.2⟩⟩, hk.1.2.1⟩))))); (case aB => exact hB_); (case aF => exact (fun k_ hk => ⟨(.inr (Nat.le_trans (bF_ hB_) hk)), Kd.freshB (kk_ BK165) k_ hk, Kd.freshB (kk_ BK173) k_ hk⟩)); (case aO => exact (by (with_reducible repeat (first | apply Kd.N_alloc | apply Kd.N_drewN | apply Kd.N_drew)); exact Kd.N_mono HO_5.out (fun _ hk => ⟨hk.1.1, ⟨hk.1.2, hk.2⟩⟩))); (case aS => exact (bF_ hB_)); (case aL => have := LMc44.out; omega); intro v189 w54 ho hb hg hat; rw [← Ny188.out] at ho; replace HO_10 := A_ (Kd.V_afterv (ok := (fun k_ => ((P0_ k_ ∨ P1_0_ k_ ∨ P1_1_ k_) ∨ w.heap.size ≤ k_) ∧ k_ ≠ gb165 ∧ k_ ≠ gb173)) (by (with_reducible repeat (first | apply Kd.V_alloc | apply Kd.V_drewN | apply Kd.V_drew)); exact Kd.V_mono HO_10.out (fun _ hk => ⟨⟨hk.1.1, ⟨hk.1.2.2, hk.2⟩⟩, hk.1.2.1⟩)) hg hat); replace HO_166000 := A_ (Kd.V_afterv (ok := (fun k_ => ((P0_ k_ ∨ P1_0_ k_ ∨ P1_1_ k_) ∨ w.heap.size ≤ k_) ∧ k_ ≠ gb165 ∧ k_ ≠ gb173)) (by (with_reducible repeat (first | apply Kd.V_alloc | apply Kd.V_drewN | apply Kd.V_drew)); exact Kd.V_mono HO_166000.out (fun _ hk => ⟨⟨hk.1.1, ⟨hk.1.2.2, hk.2⟩⟩, hk.1.2.1⟩)) hg hat); replace HO_166001 := A_ (Kd.V_afterv (ok := (fun k_ => ((P0_ k_ ∨ P1_0_ k_ ∨ P1_1_ k_) ∨ w.heap.size ≤ k_) ∧ k_ ≠ gb165 ∧ k_ ≠ gb173)) (by (with_reducible repeat (first | apply Kd.V_alloc | apply Kd.V_drewN | apply Kd.V_drew)); exact Kd.V_mono HO_166001.out (fun _ hk => ⟨⟨hk.1.1, ⟨hk.1.2.2, hk.2⟩⟩, hk.1.2.1⟩)) hg hat); replace BK165 := A_ (blk_grown (kk_ BK165) hg (Kd.N_away HO_5.out (fun _ hk => hk.1.2))); replace HL172_0 := A_ (Kd.V_afterv (ok := (fun k_ => ((P0_ k_ ∨ P1_0_ k_ ∨ P1_1_ k_) ∨ w.heap.size ≤ k_) ∧ k_ ≠ gb165 ∧ k_ ≠ gb173)) (by (with_reducible repeat (first | apply Kd.V_alloc | apply Kd.V_drewN | apply Kd.V_drew)); exact Kd.V_mono HL172_0.out (fun _ hk => ⟨⟨hk.1.1, ⟨hk.1.2.2, hk.2⟩⟩, hk.1.2.1⟩)) hg hat); replace HL172_1 := A_ (Kd.V_afterv (ok := (fun k_ => ((P0_ k_ ∨ P1_0_ k_ ∨ P1_1_ k_) ∨ w.heap.size ≤ k_) ∧ k_ ≠ gb165 ∧ k_ ≠ gb173)) (by (with_reducible repeat (first | apply Kd.V_alloc | apply Kd.V_drewN | apply Kd.V_drew)); exact Kd.V_mono HL172_1.out (fun _ hk => ⟨⟨hk.1.1, ⟨hk.1.2.2, hk.2⟩⟩, hk.1.2.1⟩)) hg hat); replace BK173 := A_ (blk_grown (kk_ BK173) hg (Kd.N_away HO_5.out (fun _ hk => hk.2))); replace HB := A_ hb; have HO190 := A_ ho; clear HO_5; clear ho hb hg hat))
       go_roundg k1
       case measure => have := HK1.out; omega
       case rel => exact ⟨(y188), (false), (wrap64 (x12_1 + 1)), qc_, qc_, H', ⟨by have := HK1.out; omega⟩, ⟨by (with_reducible repeat (first | apply Kd.N_alloc | apply Kd.N_drewN | apply Kd.N_drew)); exact Kd.N_mono HO190.out (fun _ hk => ⟨hk.1, hk.2.1⟩)⟩, ⟨by (with_reducible repeat (first | apply Kd.V_alloc | apply Kd.V_drewN | apply Kd.V_drew)); exact Kd.V_mono HO_10.out (fun _ hk => ⟨hk.1.1, ⟨hk.2, hk.1.2.1⟩⟩)⟩, ⟨by (with_reducible repeat (first | apply Kd.V_alloc | apply Kd.V_drewN | apply Kd.V_drew)); exact Kd.V_mono HO_166000.out (fun _ hk => ⟨hk.1.1, ⟨hk.2, hk.1.2.1⟩⟩)⟩, ⟨by (with_reducible repeat (first | apply Kd.V_alloc | apply Kd.V_drewN | apply Kd.V_drew)); exact Kd.V_mono HO_166001.out (fun _ hk => ⟨hk.1.1, ⟨hk.2, hk.1.2.1⟩⟩)⟩, ⟨(kk_ BK165)⟩, ⟨hB_⟩⟩
   ·rw [if_neg c6] at H
    have c6b0 := oD_ c6
    clear c6
    by_cases c55 : x6_1 = true
    ·subst c55
     rw [if_pos rfl] at H
     obtain rfl := Option.some.inj H
     go_wp2
     go_ret
     exact ⟨_, qb_, by (with_reducible repeat (first | apply Kd.N_alloc | apply Kd.N_drewN | apply Kd.N_drew)); exact Kd.N_mono HO_5.out (fun _ hk => hk.1), hB_⟩
    ·replace c55 := Bool.eq_false_iff.mpr c55
     subst c55
     have H1 : (if x5_1.length < 2932031007402 then (some (x5_1 ++ [(⟨l1_0, l1_1⟩ : S38)])) else (none)) = some r := by rw [if_neg (show ¬ (false = true) by decide)] at H; exact H
     clear H
     have H := H1
     clear H1
     have c56 := cp_ H
     replace H := ca_ H
     have LMc56 := A_ c56
     clear c56
     obtain ⟨y169, hy169⟩ : ∃ y_ : List (S38), y_ = (x5_1 ++ [(⟨l1_0, l1_1⟩ : S38)]) := ⟨_, rfl⟩
     replace H : (some y169) = some r := by first | (rw [hy169]; exact H) | exact H
     have Ny169 := A_ hy169
     clear hy169
     obtain rfl := Option.some.inj H
     obtain ⟨hcz57_0, hcz57_1, hfz57_0, hfz57_1⟩ := c2_ BK165
     go_wp2_with (first | ((with_reducible refine gate_builtin (b := .append) (xs := #[.tmp 37, .tmp 39]) rfl ?_); at_builtin; refine Kd.N_append k38 (w0 := w) w.heap.size rfl (.tmp 37) (.tmp 39) 28 38 (.agg #[(.slice none 0 0), (.slice none 0 0)]) 48 rfl Tryz.underlying28 info38 rfl (by decide) (by omega) u5 x5_1 (⟨l1_0, l1_1⟩ : S38) [.slice A1_0 l1_0.length c1_0, .slice A1_1 l1_1.length c1_1] (fun k_ => ((P0_ k_ ∨ P1_0_ k_ ∨ P1_1_ k_) ∨ w.heap.size ≤ k_) ∧ k_ ≠ gb165) (fun k_ => ((fun k_ => ((P0_ k_ ∨ P1_0_ k_ ∨ P1_1_ k_) ∨ w.heap.size ≤ k_) ∧ k_ ≠ gb165)) k_ ∧ some k_ ≠ (u5 : Value).ownBlock) rfl rfl ?aP (fun _ hk => hk) ?aF ?aO ?aB ?aS ?aL ?_; (case aP => exact (k38_mkF _ _ (⟨l1_0, l1_1⟩ : S38) (Kd.V_reads' (Kd.V_mono (ok' := (fun k_ => ((fun k_ => ((P0_ k_ ∨ P1_0_ k_ ∨ P1_1_ k_) ∨ w.heap.size ≤ k_) ∧ k_ ≠ gb165)) k_ ∧ some k_ ≠ (u5 : Value).ownBlock)) (HO_166000.out) (fun k_ hk => ⟨⟨hk.1, hk.2.2⟩, hk.2.1⟩))).2.1 (Kd.V_F (Kd.V_mono (ok' := (fun k_ => ((fun k_ => ((P0_ k_ ∨ P1_0_ k_ ∨ P1_1_ k_) ∨ w.heap.size ≤ k_) ∧ k_ ≠ gb165)) k_ ∧ some k_ ≠ (u5 : Value).ownBlock)) (HO_166000.out) (fun k_ hk => ⟨⟨hk.1, hk.2.2⟩, hk.2.1⟩))) (Kd.V_reads' (Kd.V_mono (ok' := (fun k_ => ((fun k_ => ((P0_ k_ ∨ P1_0_ k_ ∨ P1_1_ k_) ∨ w.heap.size ≤ k_) ∧ k_ ≠ gb165)) k_ ∧ some k_ ≠ (u5 : Value).ownBlock)) (HO_166001.out) (fun k_ hk => ⟨⟨hk.1, hk.2.2⟩, hk.2.1⟩))).2.1 (Kd.V_F (Kd.V_mono (ok' := (fun k_ => ((fun k_ => ((P0_ k_ ∨ P1_0_ k_ ∨ P1_1_ k_) ∨ w.heap.size ≤ k_) ∧ k_ ≠ gb165)) k_ ∧ some k_ ≠ (u5 : Value).ownBlock)) (HO_166001.out) (fun k_ hk => ⟨⟨hk.1, hk.2.2⟩, hk.2.1⟩))))); (case aB => exact hB_); (case aF => exact (fun k_ hk => ⟨(.inr (Nat.le_trans (bF_ hB_) hk)), Kd.freshB (kk_ BK165) k_ hk⟩)); (case aO => exact (by (with_reducible repeat (first | apply Kd.N_alloc | apply Kd.N_drewN | apply Kd.N_drew)); exact HO_5.out)); (case aS => exact (bF_ hB_)); (case aL => have := LMc56.out; omega); intro v170 w58 ho hb hg hat; rw [← Ny169.out] at ho; replace HO_10 := A_ (Kd.V_afterv (ok := (fun k_ => ((P0_ k_ ∨ P1_0_ k_ ∨ P1_1_ k_) ∨ w.heap.size ≤ k_) ∧ k_ ≠ gb165)) (by (with_reducible repeat (first | apply Kd.V_alloc | apply Kd.V_drewN | apply Kd.V_drew)); exact Kd.V_mono HO_10.out (fun _ hk => ⟨⟨hk.1, hk.2.2⟩, hk.2.1⟩)) hg hat); replace HO_166000 := A_ (Kd.V_afterv (ok := (fun k_ => ((P0_ k_ ∨ P1_0_ k_ ∨ P1_1_ k_) ∨ w.heap.size ≤ k_) ∧ k_ ≠ gb165)) (by (with_reducible repeat (first | apply Kd.V_alloc | apply Kd.V_drewN | apply Kd.V_drew)); exact Kd.V_mono HO_166000.out (fun _ hk => ⟨⟨hk.1, hk.2.2⟩, hk.2.1⟩)) hg hat); replace HO_166001 := A_ (Kd.V_afterv (ok := (fun k_ => ((P0_ k_ ∨ P1_0_ k_ ∨ P1_1_ k_) ∨ w.heap.size ≤ k_) ∧ k_ ≠ gb165)) (by (with_reducible repeat (first | apply Kd.V_alloc | apply Kd.V_drewN | apply Kd.V_drew)); exact Kd.V_mono HO_166001.out (fun _ hk => ⟨⟨hk.1, hk.2.2⟩, hk.2.1⟩)) hg hat); replace BK165 := A_ (blk_grown (kk_ BK165) hg (Kd.N_away HO_5.out (fun _ hk => hk.2))); replace HB := A_ hb; have HO171 := A_ ho; clear HO_5; clear ho hb hg hat))
     go_ret
     exact ⟨_, qb_, by (with_reducible repeat (first | apply Kd.N_alloc | apply Kd.N_drewN | apply Kd.N_drew)); exact Kd.N_mono HO171.out (fun _ hk => hk.1), hB_⟩
def Z35.l0 : Nat → List Int → List Int → List Int → Int → Int → Option (List Int)
 | 0, _, _, _, _, _ => none
 | k + 1, x1, x5, x11, x12, x13 => if x13 < x12 then (if 0 ≤ x13 then (if x13 < (x11.length : Int) then (if x13 < (x1.length : Int) then (if 0 ≤ (rd x11 x13) then (if (rd x11 x13) < (x1.length : Int) then (if 0 ≤ (rd x1 x13) then (if (rd x1 x13) < (x5.length : Int) then (Z35.l0 k x1 (x5.set ((rd x1 x13) : Int).toNat (rd x1 (rd x11 x13))) x11 x12 (wrap64 (x13 + 1))) else (none)) else (none)) else (none)) else (none)) else (none)) else (none)) else (none)) else (some x5)
def Z35.f (k : Nat) (l0 : List Int) (l1 : List Int) : Option (List Int) := if 0 ≤ (l0.length : Int) then (if ((l0.length : Int) : Int).toNat ≤ 35184372088832 then (Z35.l0 k l1 (List.replicate ((l0.length : Int) : Int).toNat 0) l0 (l0.length : Int) 0) else (none)) else (none)
theorem Z35.mono_l : ∀ k, (∀ y0 y1 y2 y3 y4, LeO (Z35.l0 k y0 y1 y2 y3 y4) (Z35.l0 (k + 1) y0 y1 y2 y3 y4))
 | 0 => fun _ _ _ _ _ r h => by simp [Z35.l0] at h
 | k + 1 => by
  have ih0 := Z35.mono_l k
  ·intro y0 y1 y2 y3 y4
   unfold Z35.l0
   repeat' first|exact ih0 _ _ _ _ _|exact lo_|refine LeO.ite ?_ ?_|refine LeO.bind ?_ (fun _ => ?_)
theorem Z35.mono : ∀ a0 a1 k, LeO (Z35.f k a0 a1) (Z35.f (k + 1) a0 a1) := by
 intro a0 a1 k
 have ih0 := Z35.mono_l k
 unfold Z35.f
 repeat' first|exact ih0 _ _ _ _ _|exact lo_|refine LeO.ite ?_ ?_|refine LeO.bind ?_ (fun _ => ?_)
def Z35.T5 : Bool × List (List Nat × List Nat) := (true, [([], []), ([], []), ([], []), ([1, 2], [1, 2]), ([3], [3]), ([], []), ([], []), ([5, 6], [5, 6]), ([7], [7]), ([0, 4, 0, 1, 2, 3, 4, 5, 6, 7, 8], [0, 4]), ([9, 8, 0, 1, 2, 3, 4, 5, 6, 7, 8], [8, 9])])
def Z35.B5 : List Nat := [0, 0, 0, 6, 14, 0, 0, 96, 224, 511, 1023]
theorem Z35.tab5 : rtab .any (opsOf Tryz.f78 5) = Z35.T5 := by kernel_rfl
theorem Z35.bits5 : waitsOk Z35.T5.2 Z35.B5 = true := by kernel_rfl
set_option maxHeartbeats 8000000 in
set_option maxRecDepth 100000 in
theorem Z35.calls (k : Nat) (A0 : Option Addr) (c0 : Nat) (l0 : List Int) (A1 : Option Addr) (c1 : Nat) (l1 : List Int) (r : List Int) (w : World) (hr0 : Kd.C (Kd.int .i64) w A0 l0.length l0) (hc0 : l0.length ≤ c0) (hr1 : Kd.C (Kd.int .i64) w A1 l1.length l1) (hc1 : l1.length ≤ c1) (h : Z35.f k l0 l1 = some r) :
  Calls Tryz.prog 78 #[.slice A0 l0.length c0, .slice A1 l1.length c1] w fun e w' => ∃ v0_ : Value, e = .returned (v0_) ∧ Kd.R (Kd.int .i64) 3 w' w.heap.size (fun _ => True) v0_ r ∧ Below w.heap.size w w' := by
 have HR0 := A_ hr0
 have HC0 := A_ hc0
 clear hr0 hc0
 have HR1 := A_ hr1
 have HC1 := A_ hc1
 clear hr1 hc1
 have HB := A_ (Below.refl w.heap.size w)
 have H := h
 unfold Z35.f at H
 clear h
 have c3 := cp_ H
 replace H := ca_ H
 have c3b0 := eq_true c3
 have c3b1 := oC_ c3
 clear c3
 have c4 := cp_ H
 replace H := ca_ H
 have c4b0 := eq_true c4
 have c4b1 := oC_ c4
 clear c4
 obtain ⟨y191, hy191⟩ : ∃ y_ : List Int, y_ = (List.replicate ((l0.length : Int) : Int).toNat 0) := ⟨_, rfl⟩
 replace H : (Z35.l0 k l1 y191 l0 (l0.length : Int) 0) = some r := by first | (rw [hy191]; exact H) | exact H
 have Ny191 := A_ hy191
 clear hy191
 have H' := A_ H
 clear H
 go_enter Tryz.func78, Tryz.ntmps78
 go_wp2_with (first | ((with_reducible refine gB_ (N := 10) rfl ?_); refine Kd.R_make (Kd.int .i64) _ 3 rfl (N := 10) rfl 27 _ _ rfl (l0.length : Int) rfl rfl Tryz.underlying27 (.int .i64 0) 8 info3 rfl (by decide) (by omega) 0 (ok := fun _ => True) (okp := fun _ => True) rfl (fun _ hk => hk) trivial (oB_ qe_) (Nat.le_trans (Nat.mul_le_mul_right _ (oB_ qe_ : (l0.length : Int).toNat ≤ 35184372088832)) (by omega)) (Below.refl _ _) (nA_ _) ?_; intro v192 w5 ho6 hb hg_ hnew_; clear hg_ hnew_; (first | rw [← Ny191.out] at ho6 | (simp only [Int.reduceToNat] at ho6; rw [← Ny191.out] at ho6)); have HO193 := rl_ w ho6; replace HB := b1_ hb; clear hb ho6))
 go_loopg [13] k (fun kq v13 w' => ∃ (x5_1 : List Int) (x13_1 : Int), v13 = .int .i64 x13_1 ∧ Aside0 (Z35.l0 kq l1 x5_1 l0 (l0.length : Int) x13_1 = some r) ∧ Aside0 (kq ≤ k) ∧ Aside0 (Kd.R (Kd.int .i64) 3 w' w.heap.size (fun _ => True) v192 x5_1) ∧ Aside0 (Below w.heap.size w w'))
 case atStart => exact ⟨(y191), (0), qc_, H', ⟨nA_ _⟩, ⟨(rr_ HO193)⟩, ⟨hB_⟩⟩
 case round =>
  clear H'
  obtain ⟨x5_1, x13_1, rfl, HA, HK1, HO_5, HB⟩ := hrel
  cases gk with
  | zero => exact absurd HA.out (by simp [Z35.l0])
  | succ k1 =>
   have H := HA.out
   clear HA
   simp only [Z35.l0] at H
   by_cases c7 : x13_1 < (l0.length : Int)
   ·rw [if_pos c7] at H
    have c7b0 := oC_ c7
    clear c7
    have c8 := cp_ H
    replace H := ca_ H
    have c8b0 := oC_ c8
    clear c8
    have c9 := cp_ H
    replace H := ca_ H
    have c9b0 := oC_ c9
    clear c9
    have c10 := cp_ H
    replace H := ca_ H
    have c10b0 := oC_ c10
    clear c10
    have c11 := cp_ H
    replace H := ca_ H
    have c11b0 := oC_ c11
    clear c11
    have c12 := cp_ H
    replace H := ca_ H
    have c12b0 := oC_ c12
    clear c12
    have c13 := cp_ H
    replace H := ca_ H
    have c13b0 := oC_ c13
    clear c13
    have c14 := cp_ H
    replace H := ca_ H
    have c14b0 := oC_ c14
    clear c14
    obtain ⟨y197, hy197⟩ : ∃ y_ : List Int, y_ = (x5_1.set ((rd l1 x13_1) : Int).toNat (rd l1 (rd l0 x13_1))) := ⟨_, rfl⟩
    replace H : (Z35.l0 k1 l1 y197 l0 (l0.length : Int) (wrap64 (x13_1 + 1))) = some r := by first | (rw [hy197]; exact H) | exact H
    have Ny197 := A_ hy197
    clear hy197
    have H' := A_ H
    clear H
    have p194 : 0 ≤ (x13_1 : Int) := oB_ qe_
    have q194 : x13_1 < (l0.length : Int) := oB_ qe_
    obtain ⟨ad194, e194, hx194_0⟩ := Kd.at_int HR0.out x13_1 p194 q194
    cases e194
    replace hx194_0 := (HB.out.cell (World.block_lt_of_cell? w _ hx194_0)).trans hx194_0
    replace p194 := eq_true p194
    replace q194 := eq_true q194
    try go_wp2
    replace HO_5 := A_ (rC_ HO_5.out)
    replace HB := A_ (bC_ HB.out)
    have p195 : 0 ≤ (x13_1 : Int) := oB_ qe_
    have q195 : x13_1 < (l1.length : Int) := oB_ qe_
    obtain ⟨ad195, e195, hx195_0⟩ := Kd.at_int HR1.out x13_1 p195 q195
    have hw195_0 := hx195_0
    cases e195
    replace hx195_0 := (HB.out.cell (World.block_lt_of_cell? w _ hx195_0)).trans hx195_0
    replace p195 := eq_true p195
    replace q195 := eq_true q195
    have p196 : 0 ≤ ((rd l0 x13_1) : Int) := oB_ qe_
    have q196 : (rd l0 x13_1) < (l1.length : Int) := oB_ qe_
    obtain ⟨ad196, e196, hx196_0⟩ := Kd.at_int HR1.out (rd l0 x13_1) p196 q196
    have hw196_0 := hx196_0
    obtain rfl : ad195 = ad196 := (by injection e196)
    replace hx196_0 := (HB.out.cell (World.block_lt_of_cell? w _ hx196_0)).trans hx196_0
    replace p196 := eq_true p196
    replace q196 := eq_true q196
    have p15 : 0 ≤ ((rd l1 x13_1) : Int) := oB_ qe_
    have q15 : ((rd l1 x13_1) : Int) < ((x5_1.length : Int) : Int) := oB_ qe_
    obtain ⟨go15, co15, eo15, gb15, gl15, cl15, HG15⟩ := Kd.R_form HO_5.out (by omega)
    (first | cases eo15 | (injection eo15 with ea_ en_ ec_; (first | subst ea_ | (injection ea_ with ea_; subst ea_)); subst ec_; clear en_))
    have GB15 := A_ gb15
    have GG15 := A_ HG15
    clear gb15 gl15 HG15
    obtain ⟨hx15_0, hf15_0⟩ := Kd.R_celln 0 HO_5.out ((rd l1 x13_1) : Int) p15 q15
    replace p15 := eq_true p15
    replace q15 := eq_true q15
    have HP17 := Kd.R_putn HO_5.out ((rd l1 x13_1) : Int) (rd l1 (rd l0 x13_1))
    rw [← Ny197.out] at HP17
    have HQ17 := A_ HP17
    clear HP17
    refine start_ (n := 11) (S := fun w' => w'.cell? (ad195.add (x13_1).toNat) = some (.int .i64 (rd l1 x13_1)) ∧ w'.cell? (ad195.add ((rd l0 x13_1)).toNat) = some (.int .i64 (rd l1 (rd l0 x13_1)))) (ds := [10]) (bl_ 11 0) (by kernel_rfl) rfl (by kernel_rfl) ⟨((HB.out.cell (World.block_lt_of_cell? w _ hw195_0)).trans hw195_0), ((HB.out.cell (World.block_lt_of_cell? w _ hw196_0)).trans hw196_0)⟩ (fun hHeld => ?_); refine with_tabW Z35.tab5 Z35.bits5 (fun HT_ HW_ => ?_)
    generalize wr.drew = w16 at HO_5 HB GG15 HQ17 hf15_0 hx15_0 hx195_0 hx196_0 hHeld ⊢
    refine pu_ 0 (some 18) (bl_ 11 1) HT_ ?_
    refine pu_ 1 (some 19) (bl_ 11 3) HT_ ?_
    refine pu_ 2 (some 20) (bl_ 11 7) HT_ ?_
    refine pu_ 3 (some 21) (bl_ 11 15) HT_ ?_
    refine pu_ 5 (some 23) (bl_ 11 47) HT_ ?_
    refine pu_ 6 (some 24) (bl_ 11 111) HT_ ?_
    refine pu_ 7 (some 25) (bl_ 11 239) HT_ ?_
    refine ta_ 4 (some 22) (bl_ 11 255) HT_ HW_ hHeld ?_
    refine ta_ 8 (some 26) (bl_ 11 511) HT_ HW_ hHeld ?_
    refine pu_ 9 (some 27) (bl_ 11 1023) HT_ ?_
    refine last_ (i := 10) (N := none) (bl_ 11 2047) rfl rfl (one_of HT_.out (by kernel_rfl)) (by decide) (fun K hK => ?_)
    refine skip_ (w1 := ?_) (by rfl) rfl ?_ ?_
    rotate_left
    ·go_simp
     rfl
    refine hK.out _ _ ?_
    clear hK K
    refine done_ (done_of HT_.out (by kernel_rfl)) ?_
    try go_wp2
    go_roundg k1
    case measure => have := HK1.out; omega
    case rel => exact ⟨(y197), (wrap64 (x13_1 + 1)), qc_, H', ⟨by have := HK1.out; omega⟩, ⟨(rr_ HQ17)⟩, ⟨by repeat (first | (with_reducible first | exact HB.out | apply bA_ | apply bB_ | apply bC_ | refine bD_ ?_ GB15.out) | exact HB.out)⟩⟩
   ·rw [if_neg c7] at H
    have c7b0 := oD_ c7
    clear c7
    obtain rfl := Option.some.inj H
    go_wp2
    go_ret
    exact ⟨_, qb_, (rr_ HO_5), hB_⟩
def Z37.f (k : Nat) (l0_0 : List Int) (l0_1 : List Int) (l1 : List Int) : Option (List Int × List Int) := (Z35.f k l0_0 l1).bind fun t200 => ((Z35.f k l0_1 l1).bind fun t203 => (some (t200, t203)))
theorem Z37.mono : ∀ a0 a1 a2 k, LeO (Z37.f k a0 a1 a2) (Z37.f (k + 1) a0 a1 a2) := by
 intro a0 a1 a2 k
 unfold Z37.f
 repeat' first|exact Z35.mono _ _ _|exact lo_|refine LeO.ite ?_ ?_|refine LeO.bind ?_ (fun _ => ?_)
def Z37.T1 : Bool × List (List Nat × List Nat) := (true, [([], []), ([0], [0]), ([], []), ([1, 2], [1, 2]), ([], []), ([4], [4]), ([], []), ([5, 6, 3], [5, 6]), ([3, 7], [3, 7]), ([8, 7, 0, 1, 2, 3, 4, 5, 6, 7, 8], [8])])
def Z37.B1 : List Nat := [0, 1, 0, 7, 0, 16, 0, 127, 255, 511]
theorem Z37.tab1 : rtab .any (opsOf Tryz.f49 1) = Z37.T1 := by kernel_rfl
theorem Z37.bits1 : waitsOk Z37.T1.2 Z37.B1 = true := by kernel_rfl
set_option maxHeartbeats 8000000 in
set_option maxRecDepth 100000 in
theorem Z37.calls (k : Nat) (A0_0 : Option Addr) (c0_0 : Nat) (l0_0 : List Int) (A0_1 : Option Addr) (c0_1 : Nat) (l0_1 : List Int) (A1 : Option Addr) (c1 : Nat) (l1 : List Int) (r1 : List Int) (r2 : List Int) (w : World) (hr0_0 : Kd.C (Kd.int .i64) w A0_0 l0_0.length l0_0) (hc0_0 : l0_0.length ≤ c0_0) (hr0_1 : Kd.C (Kd.int .i64) w A0_1 l0_1.length l0_1) (hc0_1 : l0_1.length ≤ c0_1) (hr1 : Kd.C (Kd.int .i64) w A1 l1.length l1) (hc1 : l1.length ≤ c1) (h : Z37.f k l0_0 l0_1 l1 = some (r1, r2)) :
  Calls Tryz.prog 49 #[.agg #[.slice A0_0 l0_0.length c0_0, .slice A0_1 l0_1.length c0_1], .slice A1 l1.length c1] w fun e w' => ∃ v0_ v1_ : Value, e = .returned (.agg #[v0_, v1_]) ∧ Kd.R (Kd.int .i64) 3 w' w.heap.size (fun k_ => some k_ ≠ (v1_ : Value).ownBlock) v0_ r1 ∧ Kd.R (Kd.int .i64) 3 w' w.heap.size (fun k_ => some k_ ≠ (v0_ : Value).ownBlock) v1_ r2 ∧ Below w.heap.size w w' := by
 have hu38 := Tryz.underlying38
 have HR0_0 := A_ hr0_0
 have HC0_0 := A_ hc0_0
 clear hr0_0 hc0_0
 have HR0_1 := A_ hr0_1
 have HC0_1 := A_ hc0_1
 clear hr0_1 hc0_1
 have HR1 := A_ hr1
 have HC1 := A_ hc1
 clear hr1 hc1
 have HB := A_ (Below.refl w.heap.size w)
 have H := h
 unfold Z37.f at H
 clear h
 obtain ⟨t200, A3, H⟩ := bi_ H
 obtain ⟨t203, A4, H⟩ := bi_ H
 simp only [Option.some.injEq, Prod.mk.injEq] at H
 obtain ⟨rfl, rfl⟩ := H
 go_enter Tryz.func49, Tryz.ntmps49
 try go_wp2_with (first | ((with_reducible refine gB_ (N := 2) rfl ?_); refine bx_ 2 #[.slice A0_0 l0_0.length c0_0, .slice A0_1 l0_1.length c0_1] 38 ?_; intro gb198 hg w5 hbox hb; have BK198 := A_ hbox; have GW198 := gw_ w hg; have GE198 := GW198; replace HB := b1_ hb; clear hb hbox hg) | ((with_reducible refine gB_ (N := 4) rfl ?_); refine bx_ 4 #[.slice none 0 0, .slice none 0 0] 38 ?_; intro gb199 hg w6 hbox hb; have BK199 := A_ hbox; have GW199 := gw_ w hg; have GE199 := GW199; replace HB := b1_ hb; have NB198_199 := gN_ BK198 hg; have NB199_198 := gP_ BK198 hg; replace BK198 := bb_ BK198 hb; clear hb hbox hg))
 replace BK198 := A_ (kB_ BK198.out)
 replace BK199 := A_ (kB_ BK199.out)
 replace HB := A_ (bC_ HB.out)
 refine start_ (n := 10) (S := fun w' => w'.cell? ⟨gb198, 0, none⟩ = some (.slice A0_0 l0_0.length c0_0) ∧ w'.cell? ⟨gb198, 1, none⟩ = some (.slice A0_1 l0_1.length c0_1)) (ds := []) (bl_ 10 0) (by kernel_rfl) rfl (by kernel_rfl) ⟨cz0_ BK198, cz1_ BK198⟩ (fun hHeld => ?_); refine with_tabW Z37.tab1 Z37.bits1 (fun HT_ HW_ => ?_)
 generalize w6.drew = w7 at BK198 BK199 HB hHeld ⊢
 refine pu_ 0 (some 5) (bl_ 10 1) HT_ ?_
 refine pu_ 2 (some 7) (bl_ 10 5) HT_ ?_
 refine pu_ 4 (some 9) (bl_ 10 21) HT_ ?_
 refine pu_ 6 (some 11) (bl_ 10 85) HT_ ?_
 refine ta_ 1 (some 6) (bl_ 10 87) HT_ HW_ hHeld ?_
 refine ta_ 5 (some 10) (bl_ 10 119) HT_ HW_ hHeld ?_
 refine on_ 3 (some 8) (bl_ 10 127) HT_ (fun K hK => ?_)
 refine gO_ Tryz.func78 #[.slice A0_0 l0_0.length c0_0, .slice A1 l1.length c1] (by rfl) rfl rfl qa_ ?_
 with_reducible refine (Z35.calls k _ _ l0_0 _ _ l1 t200 _ (cb_ HR0_0) HC0_0.out (cb_ HR1) HC1.out A3.out).mono ?_
 rintro e w8 ⟨v201, rfl, ho0, hb⟩
 refine ⟨_, rfl, ?_⟩
 have HO202 := rl_ w ho0
 replace BK198 := bb_ BK198 hb
 replace BK199 := bb_ BK199 hb
 replace HB := b1_ hb
 clear hb ho0
 refine hK.out _ _ ⟨cz0_ BK198, cz1_ BK198⟩ (fun hHeld => ?_)
 clear hK K
 refine no_ (some 8) ?_
 refine on_ 7 (some 12) (bl_ 10 255) HT_ (fun K hK => ?_)
 refine gO_ Tryz.func78 #[.slice A0_1 l0_1.length c0_1, .slice A1 l1.length c1] (by rfl) rfl rfl qa_ ?_
 with_reducible refine (Z35.calls k _ _ l0_1 _ _ l1 t203 _ (cb_ HR0_1) HC0_1.out (cb_ HR1) HC1.out A4.out).mono ?_
 rintro e w9 ⟨v204, rfl, ho0, hb⟩
 refine ⟨_, rfl, ?_⟩
 have HO205 := A_ (rE_ (Kd.R_new' ho0 (Kd.R_lt (rr_ HO202))) (bF_ hB_))
 replace HO202 := A_ (Kd.R_elder' (rr_ HO202) (Kd.R_base ho0) hb)
 replace BK198 := bb_ BK198 hb
 replace BK199 := bb_ BK199 hb
 replace HB := b1_ hb
 clear hb ho0
 obtain ⟨Ao10, co10, eo10⟩ := Kd.R_slice HO205.out
 (first | subst eo10 | (injection eo10 with f1_ f2_ f3_; have f4_ := f1_.symm; have f5_ := f3_.symm; clear f1_ f2_ f3_; subst f4_; subst f5_))
 obtain ⟨Ao11, co11, eo11⟩ := Kd.R_slice HO202.out
 (first | subst eo11 | (injection eo11 with f1_ f2_ f3_; have f4_ := f1_.symm; have f5_ := f3_.symm; clear f1_ f2_ f3_; subst f4_; subst f5_))
 refine hK.out _ _ ⟨cz0_ BK198, cz1_ BK198⟩ (fun hHeld => ?_)
 clear hK K
 refine no_ (some 12) ?_
 refine pu_ 8 (some 13) (bl_ 10 511) HT_ ?_
 refine on_ 9 (none) (bl_ 10 1023) HT_ (fun K hK => ?_)
 have hs12 : w9.cell? ⟨gb199, 0, none⟩ = some (.slice none 0 0) := cz0_ BK199
 have hfs12 := kD_ BK199.out 0
 have hns12_0 := NB198_199.out
 have hms12_0 := NB199_198.out
 have hs13 : w9.cell? ⟨gb199, 1, none⟩ = some (.slice none 0 0) := cz1_ BK199
 have hfs13 := kD_ BK199.out 1
 have hns13_0 := NB198_199.out
 have hms13_0 := NB199_198.out
 refine skip_ (w1 := ?_) (by rfl) rfl ?_ ?_
 rotate_left
 ·go_simp
  rfl
 refine hK.out _ _ ⟨((cell_far (p := ⟨gb199, _, none⟩) NB198_199.out _).trans (((cell_far (p := ⟨gb199, _, none⟩) NB198_199.out _).trans (hHeld.1)))), ((cell_far (p := ⟨gb199, _, none⟩) NB198_199.out _).trans (((cell_far (p := ⟨gb199, _, none⟩) NB198_199.out _).trans (hHeld.2))))⟩ (fun hHeld => ?_)
 clear hK K
 refine done_ (done_of HT_.out (by kernel_rfl)) ?_
 try go_wp2
 refine bodyPost_ret (results_cell_row rfl _ _ gb199 38 #[.slice Ao11 t200.length co11, .slice Ao10 t203.length co10] (0, 0) _ rfl qp_ Tryz.underlying38 rfl (by kernel_rfl)) rfl ?_
 exact ⟨_, _, qb_, (rw_ (Kd.R_mono (fa_ HO202 BK199) (fun _ hk => hk.2))), (rw_ (Kd.R_mono (fa_ HO205 BK199) (fun _ hk => hk.2))), hB_⟩
def Z24.l0 : Nat → List Int → List Int → Int → Int → Option (List Int)
 | 0, _, _, _, _ => none
 | k + 1, x3, x9, x10, x11 => if x11 < x10 then (if 0 ≤ x11 then (if x11 < (x9.length : Int) then (if 0 ≤ (rd x9 x11) then (if (rd x9 x11) < (x3.length : Int) then (Z24.l0 k (x3.set ((rd x9 x11) : Int).toNat x11) x9 x10 (wrap64 (x11 + 1))) else (none)) else (none)) else (none)) else (none)) else (some x3)
def Z24.f (k : Nat) (l0 : List Int) : Option (List Int) := if 0 ≤ (l0.length : Int) then (if ((l0.length : Int) : Int).toNat ≤ 35184372088832 then (Z24.l0 k (List.replicate ((l0.length : Int) : Int).toNat 0) l0 (l0.length : Int) 0) else (none)) else (none)
theorem Z24.mono_l : ∀ k, (∀ y0 y1 y2 y3, LeO (Z24.l0 k y0 y1 y2 y3) (Z24.l0 (k + 1) y0 y1 y2 y3))
 | 0 => fun _ _ _ _ r h => by simp [Z24.l0] at h
 | k + 1 => by
  have ih0 := Z24.mono_l k
  ·intro y0 y1 y2 y3
   unfold Z24.l0
   repeat' first|exact ih0 _ _ _ _|exact lo_|refine LeO.ite ?_ ?_|refine LeO.bind ?_ (fun _ => ?_)
theorem Z24.mono : ∀ a0 k, LeO (Z24.f k a0) (Z24.f (k + 1) a0) := by
 intro a0 k
 have ih0 := Z24.mono_l k
 unfold Z24.f
 repeat' first|exact ih0 _ _ _ _|exact lo_|refine LeO.ite ?_ ?_|refine LeO.bind ?_ (fun _ => ?_)
set_option maxHeartbeats 8000000 in
set_option maxRecDepth 100000 in
theorem Z24.calls (k : Nat) (A0 : Option Addr) (c0 : Nat) (l0 : List Int) (r : List Int) (w : World) (hr0 : Kd.C (Kd.int .i64) w A0 l0.length l0) (hc0 : l0.length ≤ c0) (h : Z24.f k l0 = some r) :
  Calls Tryz.prog 79 #[.slice A0 l0.length c0] w fun e w' => ∃ v0_ : Value, e = .returned (v0_) ∧ Kd.R (Kd.int .i64) 3 w' w.heap.size (fun _ => True) v0_ r ∧ Below w.heap.size w w' := by
 have HR0 := A_ hr0
 have HC0 := A_ hc0
 clear hr0 hc0
 have HB := A_ (Below.refl w.heap.size w)
 have H := h
 unfold Z24.f at H
 clear h
 have c2 := cp_ H
 replace H := ca_ H
 have c2b0 := eq_true c2
 have c2b1 := oC_ c2
 clear c2
 have c3 := cp_ H
 replace H := ca_ H
 have c3b0 := eq_true c3
 have c3b1 := oC_ c3
 clear c3
 obtain ⟨y206, hy206⟩ : ∃ y_ : List Int, y_ = (List.replicate ((l0.length : Int) : Int).toNat 0) := ⟨_, rfl⟩
 replace H : (Z24.l0 k y206 l0 (l0.length : Int) 0) = some r := by first | (rw [hy206]; exact H) | exact H
 have Ny206 := A_ hy206
 clear hy206
 have H' := A_ H
 clear H
 go_enter Tryz.func79, Tryz.ntmps79
 go_wp2_with (first | ((with_reducible refine gB_ (N := 8) rfl ?_); refine Kd.R_make (Kd.int .i64) _ 3 rfl (N := 8) rfl 27 _ _ rfl (l0.length : Int) rfl rfl Tryz.underlying27 (.int .i64 0) 8 info3 rfl (by decide) (by omega) 0 (ok := fun _ => True) (okp := fun _ => True) rfl (fun _ hk => hk) trivial (oB_ qe_) (Nat.le_trans (Nat.mul_le_mul_right _ (oB_ qe_ : (l0.length : Int).toNat ≤ 35184372088832)) (by omega)) (Below.refl _ _) (nA_ _) ?_; intro v207 w4 ho5 hb hg_ hnew_; clear hg_ hnew_; (first | rw [← Ny206.out] at ho5 | (simp only [Int.reduceToNat] at ho5; rw [← Ny206.out] at ho5)); have HO208 := rl_ w ho5; replace HB := b1_ hb; clear hb ho5))
 go_loopg [11] k (fun kq v11 w' => ∃ (x3_1 : List Int) (x11_1 : Int), v11 = .int .i64 x11_1 ∧ Aside0 (Z24.l0 kq x3_1 l0 (l0.length : Int) x11_1 = some r) ∧ Aside0 (kq ≤ k) ∧ Aside0 (Kd.R (Kd.int .i64) 3 w' w.heap.size (fun _ => True) v207 x3_1) ∧ Aside0 (Below w.heap.size w w'))
 case atStart => exact ⟨(y206), (0), qc_, H', ⟨nA_ _⟩, ⟨(rr_ HO208)⟩, ⟨hB_⟩⟩
 case round =>
  clear H'
  obtain ⟨x3_1, x11_1, rfl, HA, HK1, HO_3, HB⟩ := hrel
  cases gk with
  | zero => exact absurd HA.out (by simp [Z24.l0])
  | succ k1 =>
   have H := HA.out
   clear HA
   simp only [Z24.l0] at H
   by_cases c6 : x11_1 < (l0.length : Int)
   ·rw [if_pos c6] at H
    have c6b0 := oC_ c6
    clear c6
    have c7 := cp_ H
    replace H := ca_ H
    have c7b0 := oC_ c7
    clear c7
    have c8 := cp_ H
    replace H := ca_ H
    have c8b0 := oC_ c8
    clear c8
    have c9 := cp_ H
    replace H := ca_ H
    have c9b0 := oC_ c9
    clear c9
    have c10 := cp_ H
    replace H := ca_ H
    have c10b0 := oC_ c10
    clear c10
    obtain ⟨y210, hy210⟩ : ∃ y_ : List Int, y_ = (x3_1.set ((rd l0 x11_1) : Int).toNat x11_1) := ⟨_, rfl⟩
    replace H : (Z24.l0 k1 y210 l0 (l0.length : Int) (wrap64 (x11_1 + 1))) = some r := by first | (rw [hy210]; exact H) | exact H
    have Ny210 := A_ hy210
    clear hy210
    have H' := A_ H
    clear H
    have p209 : 0 ≤ (x11_1 : Int) := oB_ qe_
    have q209 : x11_1 < (l0.length : Int) := oB_ qe_
    obtain ⟨ad209, e209, hx209_0⟩ := Kd.at_int HR0.out x11_1 p209 q209
    cases e209
    replace hx209_0 := (HB.out.cell (World.block_lt_of_cell? w _ hx209_0)).trans hx209_0
    replace p209 := eq_true p209
    replace q209 := eq_true q209
    have p11 : 0 ≤ ((rd l0 x11_1) : Int) := oB_ qe_
    have q11 : ((rd l0 x11_1) : Int) < ((x3_1.length : Int) : Int) := oB_ qe_
    obtain ⟨go11, co11, eo11, gb11, gl11, cl11, HG11⟩ := Kd.R_form HO_3.out (by omega)
    (first | cases eo11 | (injection eo11 with ea_ en_ ec_; (first | subst ea_ | (injection ea_ with ea_; subst ea_)); subst ec_; clear en_))
    have GB11 := A_ gb11
    have GG11 := A_ HG11
    clear gb11 gl11 HG11
    obtain ⟨hx11_0, hf11_0⟩ := Kd.R_celln 0 HO_3.out ((rd l0 x11_1) : Int) p11 q11
    replace p11 := eq_true p11
    replace q11 := eq_true q11
    have HP12 := Kd.R_putg HO_3.out ((rd l0 x11_1) : Int) x11_1
    go_wp2_with (first | ((with_reducible refine gate_store (t := 3) (p := 19) rfl ?_); refine store_event (t := 3) (p := 19) (v := ?vo_w13) (w1 := (wr.setCell ⟨go11, ((rd l0 x11_1) : Int).toNat, none⟩ (.int .i64 x11_1))) ?hg ?ho ?hn ?hr ?_; (case ho => rfl); (case hg => rfl); (case hn => rfl); (case hr => first | (go_simp; done) | (go_simp; rfl)); intro w13 hw; have hg : wr.grownBy w13 (some go11) := (by rw [hw]; exact HP12.2); have hp_ : Kd.R (Kd.int .i64) 3 w13 w.heap.size (fun _ => True) (.slice (some ⟨go11, 0, none⟩) x3_1.length co11) y210 := (by rw [hw, Ny210.out]; exact HP12.1); clear HP12; replace HO_3 := A_ (hp_); replace HB := A_ ((by rw [hw]; exact bD_ (HB.out) GB11.out : Below w.heap.size w w13)); clear hg hw hp_))
    go_roundg k1
    case measure => have := HK1.out; omega
    case rel => exact ⟨(y210), (wrap64 (x11_1 + 1)), qc_, H', ⟨by have := HK1.out; omega⟩, ⟨(rr_ HO_3)⟩, ⟨hB_⟩⟩
   ·rw [if_neg c6] at H
    have c6b0 := oD_ c6
    clear c6
    obtain rfl := Option.some.inj H
    go_wp2
    go_ret
    exact ⟨_, qb_, (rr_ HO_3), hB_⟩
def Z55.f (k : Nat) (l0_0 : List Int) (l0_1 : List Int) (a1 : Int) : Option (List Int) := (Z53.f k l0_0 l0_1 a1).bind fun t212 => ((Z24.f k t212).bind fun t215 => (some t215))
theorem Z55.mono : ∀ a0 a1 a2 k, LeO (Z55.f k a0 a1 a2) (Z55.f (k + 1) a0 a1 a2) := by
 intro a0 a1 a2 k
 unfold Z55.f
 repeat' first|exact Z24.mono _ _|exact Z53.mono _ _ _ _|exact lo_|refine LeO.ite ?_ ?_|refine LeO.bind ?_ (fun _ => ?_)
set_option maxHeartbeats 8000000 in
set_option maxRecDepth 100000 in
theorem Z55.calls (k : Nat) (A0_0 : Option Addr) (c0_0 : Nat) (l0_0 : List Int) (A0_1 : Option Addr) (c0_1 : Nat) (l0_1 : List Int) (a1 : Int) (r : List Int) (w : World) (hr0_0 : Kd.C (Kd.int .i64) w A0_0 l0_0.length l0_0) (hc0_0 : l0_0.length ≤ c0_0) (hr0_1 : Kd.C (Kd.int .i64) w A0_1 l0_1.length l0_1) (hc0_1 : l0_1.length ≤ c0_1) (h : Z55.f k l0_0 l0_1 a1 = some r) :
  Calls Tryz.prog 50 #[.agg #[.slice A0_0 l0_0.length c0_0, .slice A0_1 l0_1.length c0_1], .int .i64 a1] w fun e w' => ∃ v0_ : Value, e = .returned (v0_) ∧ Kd.R (Kd.int .i64) 3 w' w.heap.size (fun _ => True) v0_ r ∧ Below w.heap.size w w' := by
 have hu38 := Tryz.underlying38
 have HR0_0 := A_ hr0_0
 have HC0_0 := A_ hc0_0
 clear hr0_0 hc0_0
 have HR0_1 := A_ hr0_1
 have HC0_1 := A_ hc0_1
 clear hr0_1 hc0_1
 have HB := A_ (Below.refl w.heap.size w)
 have H := h
 unfold Z55.f at H
 clear h
 obtain ⟨t212, A3, H⟩ := bi_ H
 obtain ⟨t215, A4, H⟩ := bi_ H
 obtain rfl := Option.some.inj H
 go_enter Tryz.func50, Tryz.ntmps50
 go_wp2_with (first | ((with_reducible refine gB_ (N := 2) rfl ?_); refine bx_ 2 #[.slice A0_0 l0_0.length c0_0, .slice A0_1 l0_1.length c0_1] 38 ?_; intro gb211 hg w5 hbox hb; have BK211 := A_ hbox; have GW211 := gw_ w hg; have GE211 := GW211; replace HB := b1_ hb; clear hb hbox hg; obtain ⟨hcz6_0, hcz6_1, hfz6_0, hfz6_1⟩ := c2_ BK211) | ((with_reducible refine gA_ (f := 76) rfl ?_); refine gL_ (some 10) Tryz.func76 #[.slice A0_0 l0_0.length c0_0, .slice A0_1 l0_1.length c0_1, .int .i64 a1] rfl qa_ ?_; (with_reducible refine (Z53.calls k _ _ l0_0 _ _ l0_1 a1 t212 _ (cb_ HR0_0) HC0_0.out (cb_ HR0_1) HC0_1.out A3.out).mono ?_); rintro e w7 ⟨v213, rfl, ho0, hb⟩; refine ⟨_, rfl, ?_⟩; have HO214 := rl_ w ho0; replace BK211 := bb_ BK211 hb; replace HB := b1_ hb; clear hb ho0; obtain ⟨Ao8, co8, eo8⟩ := Kd.R_slice HO214.out; subst eo8) | ((with_reducible refine gA_ (f := 79) rfl ?_); refine gL_ (some 11) Tryz.func79 #[.slice Ao8 t212.length co8] rfl qa_ ?_; (with_reducible refine (Z24.calls k _ _ t212 t215 _ (cr_ HO214) ((Kd.R_reads' HO214.out).2.1) A4.out).mono ?_); rintro e w9 ⟨v216, rfl, ho0, hb⟩; refine ⟨_, rfl, ?_⟩; have HO217 := A_ (rE_ (Kd.R_new' ho0 (Kd.R_lt (rr_ HO214))) (bF_ hB_)); replace HO214 := A_ (Kd.R_elder' (rr_ HO214) (Kd.R_base ho0) hb); replace BK211 := bb_ BK211 hb; replace HB := b1_ hb; clear hb ho0))
 go_ret
 exact ⟨_, qb_, (rw_ (Kd.R_mono HO217.out (fun _ hk => trivial))), hB_⟩
end Go.Proofs.YtoijcallajegfaaGreat.A
end
