/- Lemmas for the row FnCusps: the program's functions told as plain functions, and plain mathematics. No conditions. -/
import Derived.ArgAppend
import Derived.Below
import Derived.BigQuiet
import Derived.Deep.AppendLies
import Derived.Deep.CutBlock
import Derived.Deep.DeepCutAuto
import Derived.Deep.Draws
import Derived.Deep.LoopGhost
import Derived.Deep.OwnRows
import Derived.Deep.QuietTactic
import Derived.Deep.RegionHeld3
import Derived.KernelRfl
import Derived.Laws.BitsLemmas
import Derived.Laws.BytesArg
import Derived.Laws.IdiomCopy
import Derived.Laws.MakeOwn
import Derived.Laws.OwnMore
import Derived.Laws.Rows
import Derived.Laws.Slices
import Derived.Laws.Tables
import Derived.Lib.AppendStr
import Derived.Lib.ConvBytes
import Derived.MapKept
import Derived.Maps.AppendAt
import Derived.OrdersHeld
import Derived.OwnWalk
import Derived.RowKit
import Derived.RowKit3
import Derived.Tactics
import Derived.Test.YtcggfjpnfodbaaaProg
import Derived.WalkKit
import Derived.WideLaws
import Derived.Test.YtcggfjpnfodbaaaQFnCusps0
section
namespace Go.Proofs.Ytcggfjpnfodbaaa.A
open Go.RowKit Go.Proofs.YtcggfjpnfodbaaaW.PrintWords Go.Proofs.YtcggfjpnfodbaaaW.PrintLast Go.Proofs.YtcggfjpnfodbaaaW.PrintMore
theorem cq0_ {w : World} {g : Nat} {t : TypeId} {a b : Value} (h : w.heap[g]? = some (.cells #[a, b] t (0, 0))) : w.cell? ⟨g, 0, none⟩ = some a := (blk_cell h 0).trans rfl
theorem cq1_ {w : World} {g : Nat} {t : TypeId} {a b : Value} (h : w.heap[g]? = some (.cells #[a, b] t (0, 0))) : w.cell? ⟨g, 1, none⟩ = some b := (blk_cell h 1).trans rfl
theorem bA_ : type_of% @below_alloc := @below_alloc
theorem bB_ : type_of% @pw_below_drewN := @pw_below_drewN
theorem bC_ : type_of% @below_drew1 := @below_drew1
theorem bD_ : type_of% @below_set := @below_set
theorem bE_ : type_of% @below_step := @below_step
theorem kA_ : type_of% @blk_drewN := @blk_drewN
theorem kB_ : type_of% @blk_drew := @blk_drew
theorem kC_ : type_of% @blk_alloc := @blk_alloc
theorem cA_ : type_of% @Kd.C_alloc := @Kd.C_alloc
theorem cB_ : type_of% @Kd.C_drewN := @Kd.C_drewN
theorem cC_ : type_of% @Kd.C_drew := @Kd.C_drew
theorem rA_ : type_of% @Kd.R_alloc := @Kd.R_alloc
theorem rB_ : type_of% @Kd.R_drewN := @Kd.R_drewN
theorem rC_ : type_of% @Kd.R_drew := @Kd.R_drew
theorem cD_ : type_of% @Kd.C_below := @Kd.C_below
theorem rD_ : type_of% @Kd.R_below := @Kd.R_below
theorem kD_ : type_of% @blk_frozen := @blk_frozen
theorem A_ : type_of% @Aside0.mk := @Aside0.mk
theorem mA_ : type_of% @List.map_toArray := @List.map_toArray
theorem mB_ : type_of% @List.map_cons := @List.map_cons
theorem mC_ : type_of% @List.map_nil := @List.map_nil
theorem sA_ : type_of% @List.setIfInBounds_toArray := @List.setIfInBounds_toArray
theorem sB_ : type_of% @List.set_cons_zero := @List.set_cons_zero
theorem sC_ : type_of% @List.set_cons_succ := @List.set_cons_succ
theorem lA_ : type_of% @List.length_drop := @List.length_drop
theorem lB_ : type_of% @List.length_take := @List.length_take
theorem gA_ : type_of% @gate_callee := @gate_callee
theorem gB_ : type_of% @gate_dst := @gate_dst
theorem oB_ : type_of% @of_decide_eq_true := @of_decide_eq_true
theorem oC_ : type_of% @decide_eq_true := @decide_eq_true
theorem oD_ : type_of% @decide_eq_false := @decide_eq_false
theorem rE_ : type_of% @Kd.R_lower := @Kd.R_lower
theorem bF_ : type_of% @below_size := @below_size
theorem kE_ : type_of% @blk_below := @blk_below
theorem nA_ : type_of% @Nat.le_refl := @Nat.le_refl
end Go.Proofs.Ytcggfjpnfodbaaa.A
end
section
namespace Go.Proofs.Ytcggfjpnfodbaaa.A
open Go.RowKit Go.Proofs.YtcggfjpnfodbaaaW.PrintWords Go.Proofs.YtcggfjpnfodbaaaW.PrintLast Go.Proofs.YtcggfjpnfodbaaaW.PrintMore
attribute [local go_sem] max2_int min2_int max_two min_two max_three min_three max_four min_four
set_option linter.unusedVariables false
set_option linter.unusedSimpArgs false
def errW : Option Int → Value
 | none => .nilIface
 | some c => .iface 0 (.int .i64 c)
theorem errW_none : errW none = .nilIface := rfl
theorem errW_some (c : Int) : errW (some c) = .iface 0 (.int .i64 c) := rfl
theorem info3 : (Try.prog.info? 3).map (fun i => (i.zero, i.size, i.bytes)) = some (some (.int .i64 0), 1, 8) := by kernel_rfl
theorem info4 : (Try.prog.info? 4).map (fun i => (i.zero, i.size, i.bytes)) = some (some (.bool false), 1, 1) := by kernel_rfl
theorem info5 : (Try.prog.info? 5).map (fun i => (i.zero, i.size, i.bytes)) = some (some (.int .u8 0), 1, 1) := by kernel_rfl
theorem info9 : (Try.prog.info? 9).map (fun i => (i.zero, i.size, i.bytes)) = some (some (.string ⟨#[]⟩), 1, 16) := by kernel_rfl
theorem info23 : (Try.prog.info? 23).map (fun i => (i.zero, i.size, i.bytes)) = some (some (.slice none 0 0), 1, 24) := by kernel_rfl
theorem info25 : (Try.prog.info? 25).map (fun i => (i.zero, i.size, i.bytes)) = some (some (.agg #[(.slice none 0 0), (.slice none 0 0)]), 2, 48) := by kernel_rfl
theorem info78 : (Try.prog.info? 78).map (fun i => (i.zero, i.size, i.bytes)) = some (some (.agg #[(.int .i64 0), (.int .i64 0)]), 2, 16) := by kernel_rfl
def rd_L2 (xs : List (List Int)) (i : Int) : (List Int) := xs.getD i.toNat ([] : List Int)
theorem at_L2 {w : World} {A : Option Addr} {n : Nat} {xs : List (List Int)} (h : Kd.C (Kd.slice 3 (Kd.int .i64)) w A n xs) (i : Int) (h0 : 0 ≤ i) (h1 : i < n) : ∃ ad A0 c0, A = some ad ∧ w.cell? (ad.add i.toNat) = some (.slice A0 (rd_L2 xs i).length c0) ∧ (rd_L2 xs i).length ≤ c0 ∧ (Kd.int .i64).C w A0 (rd_L2 xs i).length (rd_L2 xs i) := by
 obtain ⟨ad, c, e, _, hK, hc0⟩ := Kd.C_get h ([] : List Int) i h0 h1
 have hc : ∀ j u, c[j]? = some u → w.cell? (ad.add (i.toNat * 1 + j)) = some u := hc0
 obtain ⟨A0, c0, rfl, l0, g0⟩ := hK
 exact ⟨ad, A0, c0, e, by have hq := hc 0 _ rfl; rwa [Nat.mul_one, Nat.add_zero] at hq, l0, g0⟩
structure S25 where
 f0 : (List Int)
 f1 : (List Int)
def z25 : S25 := ⟨([] : List Int), ([] : List Int)⟩
def pairN {α β : Type} (a : Kd α) (b : Kd β) : Kd (α × β) where
 sz := a.sz + b.sz
 E := a.E ++ b.E
 K := (Kd.pair a b).K
 M := fun w base ok x cs => ∃ c0 c1, cs = c0 ++ c1 ∧ a.M w base ok x.1 c0 ∧ b.M w base ok x.2 c1 ∧ ∀ u ∈ c0, ∀ v ∈ c1, NeRow u v
 K_len := (Kd.pair a b).K_len
 K_one := (Kd.pair a b).K_one
 K_below := (Kd.pair a b).K_below
 K_of_M := fun ⟨c0, c1, e, h0, h1, _⟩ => (Kd.pair a b).K_of_M ⟨c0, c1, e, h0, h1⟩
 M_mono := fun hok ⟨c0, c1, e, h0, h1, n⟩ => ⟨c0, c1, e, a.M_mono hok h0, b.M_mono hok h1, n⟩
 M_bound := by
  rintro w base ok x cs ⟨c0, c1, rfl, h0, h1, n⟩
  refine ⟨c0, c1, rfl, a.M_mono ?_ (a.M_bound h0), b.M_mono ?_ (b.M_bound h1), n⟩
  ·rintro k ⟨h2, h3, h4, q, hq, hc⟩
   exact ⟨h2, h3, h4, q, List.mem_append_left _ hq, hc⟩
  ·rintro k ⟨h2, h3, h4, q, hq, hc⟩
   exact ⟨h2, h3, h4, q, List.mem_append_right _ hq, hc⟩
 M_move := fun hm ⟨c0, c1, e, h0, h1, n⟩ => ⟨c0, c1, e, a.M_move hm h0, b.M_move hm h1, n⟩
 M_lower := fun hb ⟨c0, c1, e, h0, h1, n⟩ => ⟨c0, c1, e, a.M_lower hb h0, b.M_lower hb h1, n⟩
def k25 : Kd S25 := Kd.iso (pairN (Kd.slice 3 (Kd.int .i64)) (Kd.slice 3 (Kd.int .i64))) (fun x : S25 => (x.f0, x.f1))
theorem k25_open {w : World} {x : S25} {cs : List Value} (h : k25.K w x cs) : ∃ A0 c0 A1 c1, cs = [.slice A0 x.f0.length c0, .slice A1 x.f1.length c1] ∧ x.f0.length ≤ c0 ∧ (Kd.int .i64).C w A0 x.f0.length x.f0 ∧ x.f1.length ≤ c1 ∧ (Kd.int .i64).C w A1 x.f1.length x.f1 := by
 obtain ⟨_, _, rfl, ⟨A0, c0, rfl, l0, g0⟩, ⟨A1, c1, rfl, l1, g1⟩⟩ := h
 exact ⟨A0, c0, A1, c1, rfl, l0, g0, l1, g1⟩
theorem k25_openN {w : World} {base : Nat} {ok : Nat → Prop} {x : S25} {cs : List Value} (h : k25.M w base ok x cs) : ∃ v0 v1, cs = [v0, v1] ∧ (Kd.int .i64).R 3 w base ok v0 x.f0 ∧ (Kd.int .i64).R 3 w base ok v1 x.f1 ∧ NeRow v0 v1 := by
 obtain ⟨_, _, rfl, ⟨v0, rfl, g0⟩, ⟨v1, rfl, g1⟩, n⟩ := h
 exact ⟨v0, v1, rfl, g0, g1, n v0 (by simp) v1 (by simp)⟩
theorem k25_mkM (w : World) (base : Nat) (ok : Nat → Prop) (x : S25) {v0 : Value} (g0 : (Kd.int .i64).R 3 w base ok v0 x.f0) {v1 : Value} (g1 : (Kd.int .i64).R 3 w base ok v1 x.f1) (ne : NeRow v0 v1) : k25.M w base ok x [v0, v1] := ⟨[v0], [v1], rfl, ⟨v0, rfl, g0⟩, ⟨v1, rfl, g1⟩, fun u hu v hv => by rw [List.mem_singleton.1 hu, List.mem_singleton.1 hv]; exact ne⟩
theorem k25_openF {W : World} {ok : Nat → Prop} {x : S25} {cs : List Value} (h : Kd.FK k25 W ok x cs) : ∃ A0 c0 A1 c1, cs = [.slice A0 x.f0.length c0, .slice A1 x.f1.length c1] ∧ x.f0.length ≤ c0 ∧ Kd.F (Kd.int .i64) W ok A0 x.f0.length x.f0 ∧ x.f1.length ≤ c1 ∧ Kd.F (Kd.int .i64) W ok A1 x.f1.length x.f1 := by
 obtain ⟨A0, c0, A1, c1, rfl, l0, _, l1, _⟩ := k25_open (Kd.FK_now h)
 exact ⟨A0, c0, A1, c1, rfl, l0, (fun W' hW => by obtain ⟨A0_, c0_, A1_, c1_, he, l0_, g0_, l1_, g1_⟩ := k25_open (h W' hW); injection (Option.some.inj (show some (Value.slice A0 x.f0.length c0) = some (Value.slice A0_ x.f0.length c0_) from congrArg (fun l => l[0]?) he)) with ha_ _ _; rw [ha_]; exact g0_), l1, (fun W' hW => by obtain ⟨A0_, c0_, A1_, c1_, he, l0_, g0_, l1_, g1_⟩ := k25_open (h W' hW); injection (Option.some.inj (show some (Value.slice A1 x.f1.length c1) = some (Value.slice A1_ x.f1.length c1_) from congrArg (fun l => l[1]?) he)) with ha_ _ _; rw [ha_]; exact g1_)⟩
def rd_T25 (xs : List S25) (i : Int) : S25 := xs.getD i.toNat z25
theorem at_T25 {w : World} {A : Option Addr} {n : Nat} {xs : List S25} (h : Kd.C k25 w A n xs) (i : Int) (h0 : 0 ≤ i) (h1 : i < n) : ∃ ad A0 c0 A1 c1, A = some ad ∧ w.cell? (ad.add (i.toNat * 2)) = some (.slice A0 (rd_T25 xs i).f0.length c0) ∧ w.cell? ⟨(ad.add (i.toNat * 2)).block, (ad.add (i.toNat * 2)).off + 1, none⟩ = some (.slice A1 (rd_T25 xs i).f1.length c1) ∧ (rd_T25 xs i).f0.length ≤ c0 ∧ (Kd.int .i64).C w A0 (rd_T25 xs i).f0.length (rd_T25 xs i).f0 ∧ (rd_T25 xs i).f1.length ≤ c1 ∧ (Kd.int .i64).C w A1 (rd_T25 xs i).f1.length (rd_T25 xs i).f1 := by
 obtain ⟨ad, c, e, _, hK, hc0⟩ := Kd.C_get h z25 i h0 h1
 have hc : ∀ j u, c[j]? = some u → w.cell? (ad.add (i.toNat * 2 + j)) = some u := hc0
 obtain ⟨A0, c0, A1, c1, rfl, l0, g0, l1, g1⟩ := k25_open hK
 exact ⟨ad, A0, c0, A1, c1, e, hc 0 _ rfl, by rw [← add_field _ _ 1 (by omega)]; exact hc 1 _ rfl, l0, g0, l1, g1⟩
structure S78 where
 f0 : Int
 f1 : Int
def z78 : S78 := ⟨(0 : Int), (0 : Int)⟩
def k78 : Kd S78 := Kd.iso (Kd.pair (Kd.int .i64) (Kd.int .i64)) (fun x : S78 => (x.f0, x.f1))
theorem k78_open {w : World} {x : S78} {cs : List Value} (h : k78.K w x cs) : cs = [.int .i64 x.f0, .int .i64 x.f1] := by
 obtain ⟨_, _, rfl, rfl, rfl⟩ := h
 exact rfl
theorem k78_mkM (w : World) (base : Nat) (ok : Nat → Prop) (x : S78)  : k78.M w base ok x [.int .i64 x.f0, .int .i64 x.f1] := ⟨[.int .i64 x.f0], [.int .i64 x.f1], rfl, rfl, rfl⟩
def rd_T78 (xs : List S78) (i : Int) : S78 := xs.getD i.toNat z78
theorem at_T78 {w : World} {A : Option Addr} {n : Nat} {xs : List S78} (h : Kd.C k78 w A n xs) (i : Int) (h0 : 0 ≤ i) (h1 : i < n) : ∃ ad , A = some ad ∧ w.cell? (ad.add (i.toNat * 2)) = some (.int .i64 (rd_T78 xs i).f0) ∧ w.cell? ⟨(ad.add (i.toNat * 2)).block, (ad.add (i.toNat * 2)).off + 1, none⟩ = some (.int .i64 (rd_T78 xs i).f1) := by
 obtain ⟨ad, c, e, _, hK, hc0⟩ := Kd.C_get h z78 i h0 h1
 have hc : ∀ j u, c[j]? = some u → w.cell? (ad.add (i.toNat * 2 + j)) = some u := hc0
 obtain rfl := k78_open hK
 exact ⟨ad, e, hc 0 _ rfl, by rw [← add_field _ _ 1 (by omega)]; exact hc 1 _ rfl⟩
structure S99 where
 f0 : (List Int)
 f1 : Int
 f2 : Int
end Go.Proofs.Ytcggfjpnfodbaaa.A
end
section
/- Short words for printed texts. No conditions. -/
namespace Go.Proofs.Ytcggfjpnfodbaaa.A
open Go.RowKit Go.Proofs.YtcggfjpnfodbaaaW.PrintWords Go.Proofs.YtcggfjpnfodbaaaW.PrintLast Go.Proofs.YtcggfjpnfodbaaaW.PrintMore
set_option linter.unusedVariables false
theorem qa_ {p : Prop} (h : p := by (try simp only [List.map_toArray, List.map_cons, List.map_nil]); first | done | rfl | (simp only [List.length_drop, List.length_take]; rfl)) : p := h
theorem qb_ {p : Prop} (h : p := by first | rfl | (simp [errW_none, errW_some] <;> rfl) | (simp [*, errW_none, errW_some] <;> rfl)) : p := h
theorem qc_ {p : Prop} (h : p := by first | rfl | (simp; done) | (simp [*]; done)) : p := h
theorem qd_ {p : Prop} (h : p := by first | omega | exact Nat.le_refl _) : p := h
theorem qe_ {p : Prop} (h : p := by first | (with_reducible assumption) | assumption) : p := h
theorem hB_ {p : Prop} (h : p := by repeat (first | (with_reducible first | exact HB.out | apply below_alloc | apply pw_below_drewN | apply below_drew1 | refine below_set ?_ (Aside0.out (by assumption))) | exact HB.out)) : p := h
theorem hBI_ {p : Prop} (h : p := by repeat (first | (with_reducible first | exact HB.out | apply below_alloc | apply pw_below_drewN | apply below_drew1 | refine below_set ?_ (IsS99.ge HI0.out) | refine below_set ?_ (Aside0.out (by assumption))) | exact HB.out)) : p := h
theorem hK_ {p : Prop} (h : p := by repeat (first | (with_reducible first | exact HK.out | apply KeepBut.set_ | apply keep_drewN | apply keep_drew | apply keep_alloc | refine keep_far ?_ (show w.heap.size ≤ _ from Aside0.out (by assumption)) _) | exact HK.out)) : p := h
theorem hI_IsS99_HI0 {p : Prop} (h : p := by repeat (first | (with_reducible first | exact HI0.out | apply IsS99.alloc | apply IsS99.drewN | apply IsS99.drew | apply IsS99.set_1 | apply IsS99.set_2 | refine IsS99.far ?_ (Aside0.out (by assumption)) _) | exact HI0.out)) : p := h
theorem kk_ {w W : World} {g : Nat} {o : Obj} (a : Aside0 (w.heap[g]? = some o)) (hw : Below w.heap.size w W := by repeat (first | (with_reducible first | exact Below.refl _ _ | apply below_alloc | apply pw_below_drewN | apply below_drew1) | exact Below.refl _ _)) : W.heap[g]? = some o := blk_below a.out hw
theorem bb_ {w W w1 : World} {g : Nat} {o : Obj} (a : Aside0 (w.heap[g]? = some o)) (hb : Below W.heap.size W w1) (hw : Below w.heap.size w W := by repeat (first | (with_reducible first | exact Below.refl _ _ | apply below_alloc | apply pw_below_drewN | apply below_drew1) | exact Below.refl _ _)) : Aside0 (w1.heap[g]? = some o) := ⟨blk_below (blk_below a.out hw) hb⟩
section
variable {α : Type} {d : Kd α} {e n c : Nat} {b : Nat} {ok : Nat → Prop} {v : Value} {xs : List α} {A : Option Addr} {w W w1 : World}
theorem rr_ (a : Aside0 (d.R e w b ok v xs)) (hw : Below w.heap.size w W := by repeat (first | (with_reducible first | exact Below.refl _ _ | apply below_alloc | apply pw_below_drewN | apply below_drew1) | exact Below.refl _ _)) : d.R e W b ok v xs := Kd.R_below a.out hw
theorem rw_ (a : d.R e w b ok v xs) (hw : Below w.heap.size w W := by repeat (first | (with_reducible first | exact Below.refl _ _ | apply below_alloc | apply pw_below_drewN | apply below_drew1) | exact Below.refl _ _)) : d.R e W b ok v xs := Kd.R_below a hw
theorem rb_ (a : Aside0 (d.R e w b ok v xs)) (hb : Below W.heap.size W w1) (hw : Below w.heap.size w W := by repeat (first | (with_reducible first | exact Below.refl _ _ | apply below_alloc | apply pw_below_drewN | apply below_drew1) | exact Below.refl _ _)) : Aside0 (d.R e w1 b ok v xs) := ⟨Kd.R_below (Kd.R_below a.out hw) hb⟩
theorem ss_ (a : Aside0 (Kd.S d e w b ok v xs)) (hw : Below w.heap.size w W := by repeat (first | (with_reducible first | exact Below.refl _ _ | apply below_alloc | apply pw_below_drewN | apply below_drew1) | exact Below.refl _ _)) : Kd.S d e W b ok v xs := Kd.S_below a.out hw
theorem sw_ (a : Kd.S d e w b ok v xs) (hw : Below w.heap.size w W := by repeat (first | (with_reducible first | exact Below.refl _ _ | apply below_alloc | apply pw_below_drewN | apply below_drew1) | exact Below.refl _ _)) : Kd.S d e W b ok v xs := Kd.S_below a hw
theorem sb_ (a : Aside0 (Kd.S d e w b ok v xs)) (hb : Below W.heap.size W w1) (hw : Below w.heap.size w W := by repeat (first | (with_reducible first | exact Below.refl _ _ | apply below_alloc | apply pw_below_drewN | apply below_drew1) | exact Below.refl _ _)) : Aside0 (Kd.S d e w1 b ok v xs) := ⟨Kd.S_below (Kd.S_below a.out hw) hb⟩
theorem cb_ (a : Aside0 (d.C w A n xs)) (hw : Below w.heap.size w W := by repeat (first | (with_reducible first | exact HB.out | apply below_alloc | apply pw_below_drewN | apply below_drew1 | refine below_set ?_ (Aside0.out (by assumption))) | exact HB.out)) : d.C W A n xs := Kd.C_below a.out hw
theorem cc_ (a : Aside0 (d.C w A n xs)) (hw : Below w.heap.size w W := by repeat (first | (with_reducible first | exact Below.refl _ _ | apply below_alloc | apply pw_below_drewN | apply below_drew1) | exact Below.refl _ _)) : d.C W A n xs := Kd.C_below a.out hw
theorem cw_ (a : d.C w A n xs) (hw : Below w.heap.size w W := by repeat (first | (with_reducible first | exact Below.refl _ _ | apply below_alloc | apply pw_below_drewN | apply below_drew1) | exact Below.refl _ _)) : d.C W A n xs := Kd.C_below a hw
theorem cr_ (a : Aside0 (d.R e w b ok (.slice A n c) xs)) (hw : Below w.heap.size w W := by repeat (first | (with_reducible first | exact Below.refl _ _ | apply below_alloc | apply pw_below_drewN | apply below_drew1) | exact Below.refl _ _)) : d.C W A xs.length xs := Kd.C_below (Kd.R_reads' a.out).2.2 hw
end
theorem b1_ {w W w1 : World} (hb : Below W.heap.size W w1) (h : Below w.heap.size w W := by repeat (first | (with_reducible first | exact HB.out | apply below_alloc | apply pw_below_drewN | apply below_drew1 | refine below_set ?_ (Aside0.out (by assumption))) | exact HB.out)) : Aside0 (Below w.heap.size w w1) := ⟨below_step h hb⟩
theorem b2_ {w W w1 : World} (hb : Below W.heap.size W w1) (h : Below w.heap.size w W := by repeat (first | (with_reducible first | exact HB.out | apply below_alloc | apply pw_below_drewN | apply below_drew1 | refine below_set ?_ (IsS99.ge HI0.out) | refine below_set ?_ (Aside0.out (by assumption))) | exact HB.out)) : Aside0 (Below w.heap.size w w1) := ⟨below_step h hb⟩
theorem gx_ {n m k : Nat} (hg : k = m) (h : n ≤ m) : n ≤ k := hg ▸ h
theorem gn_ {n m k : Nat} (hg : k = m) (h : n < m) : n ≠ k := hg ▸ Nat.ne_of_lt h
theorem gp_ {n m k : Nat} (hg : k = m) (h : n < m) : k ≠ n := hg ▸ Nat.ne_of_gt h
theorem cz0_ {w : World} {g : Nat} {t : TypeId} {l : List Value} {v0 : Value} (h : Aside0 (w.heap[g]? = some (.cells (List.toArray (v0 :: l)) t (0, 0)))) : w.cell? ⟨g, 0, none⟩ = some v0 := (blk_cell h.out 0).trans rfl
theorem cz1_ {w : World} {g : Nat} {t : TypeId} {l : List Value} {v0 v1 : Value} (h : Aside0 (w.heap[g]? = some (.cells (List.toArray (v0 :: v1 :: l)) t (0, 0)))) : w.cell? ⟨g, 1, none⟩ = some v1 := (blk_cell h.out 1).trans rfl
theorem c2_ {w : World} {g : Nat} {t : TypeId} {v0 v1 : Value} (h : Aside0 (w.heap[g]? = some (.cells (List.toArray [v0, v1]) t (0, 0)))) : w.cell? ⟨g, 0, none⟩ = some v0 ∧ w.cell? ⟨g, 1, none⟩ = some v1 ∧ w.frozen? ⟨g, 0, none⟩ = false ∧ w.frozen? ⟨g, 1, none⟩ = false := ⟨cz0_ h, cz1_ h, blk_frozen h.out 0, blk_frozen h.out 1⟩
theorem gw_ (w : World) {W : World} {g : Nat} (hg : g = W.heap.size) (h : Below w.heap.size w W := by repeat (first | (with_reducible first | exact HB.out | apply below_alloc | apply pw_below_drewN | apply below_drew1 | refine below_set ?_ (Aside0.out (by assumption))) | exact HB.out)) : Aside0 (w.heap.size ≤ g) := ⟨gx_ hg (below_size h)⟩
theorem gN_ {w W : World} {g k : Nat} {o : Obj} (a : Aside0 (w.heap[g]? = some o)) (hg : k = W.heap.size) (hw : Below w.heap.size w W := by repeat (first | (with_reducible first | exact Below.refl _ _ | apply below_alloc | apply pw_below_drewN | apply below_drew1) | exact Below.refl _ _)) : Aside0 (g ≠ k) := ⟨gn_ hg (blk_lt (blk_below a.out hw))⟩
theorem gP_ {w W : World} {g k : Nat} {o : Obj} (a : Aside0 (w.heap[g]? = some o)) (hg : k = W.heap.size) (hw : Below w.heap.size w W := by repeat (first | (with_reducible first | exact Below.refl _ _ | apply below_alloc | apply pw_below_drewN | apply below_drew1) | exact Below.refl _ _)) : Aside0 (k ≠ g) := ⟨gp_ hg (blk_lt (blk_below a.out hw))⟩
theorem rl_ {α : Type} {d : Kd α} {e : Nat} {ok : Nat → Prop} {v : Value} {xs : List α} (w : World) {W w1 : World} (a : d.R e w1 W.heap.size ok v xs) (h : Below w.heap.size w W := by repeat (first | (with_reducible first | exact HB.out | apply below_alloc | apply pw_below_drewN | apply below_drew1 | refine below_set ?_ (Aside0.out (by assumption))) | exact HB.out)) : Aside0 (d.R e w1 w.heap.size ok v xs) := ⟨Kd.R_lower a (below_size h)⟩
theorem cp_ {α : Type} {c : Prop} [Decidable c] {a : Option α} {r : α} (H : (if c then a else none) = some r) : c := Classical.byContradiction fun h => by rw [if_neg h] at H; cases H
theorem ca_ {α : Type} {c : Prop} [Decidable c] {a : Option α} {r : α} (H : (if c then a else none) = some r) : a = some r := by rw [if_pos (cp_ H)] at H; exact H
theorem bi_ {α β : Type} {x : Option α} {f : α → Option β} {r : β} (H : x.bind f = some r) : ∃ a, Aside0 (x = some a) ∧ f a = some r := by obtain ⟨a, h, k⟩ := Option.bind_eq_some_iff.mp H; exact ⟨a, ⟨h⟩, k⟩
theorem qp_ {p : Prop} (h : p := by (with_reducible repeat (first | refine blk_drewN ?_ _ | refine blk_drew ?_ | refine blk_alloc ?_ _)); apply blk_put; (with_reducible repeat (first | refine blk_drewN ?_ _ | refine blk_drew ?_ | refine blk_alloc ?_ _)); apply blk_put; (with_reducible repeat (first | refine blk_drewN ?_ _ | refine blk_drew ?_ | refine blk_alloc ?_ _)); exact Aside0.out (by assumption); all_goals rfl) : p := h
theorem fa_ {α : Type} {d : Kd α} {e b g t : Nat} {ok : Nat → Prop} {v u0 u1 : Value} {xs : List α} {w : World} {cs : Array Value} (a : Aside0 (d.R e w b ok v xs)) (h : Aside0 (w.heap[g]? = some (.cells cs t (0, 0)))) (ht : ∀ q, q ∈ e :: d.E → q ≠ t := by decide) : d.R e ((w.setCell ⟨g, 0, none⟩ u0).setCell ⟨g, 1, none⟩ u1) b ok v xs := Kd.R_mono (Kd.R_far (p := ⟨g, 1, none⟩) (Kd.R_far (p := ⟨g, 0, none⟩) (Kd.R_types a.out h.out ht) (fun _ hk => hk.2) u0) (fun _ hk => hk.2) u1) (fun _ hk => hk.1)
def bl_ (n m : Nat) : Array Bool := ((List.range n).map fun i => m.testBit i).toArray
theorem lo_ {α : Type} {a b : Option α} (h : LeO a b := by first | exact LeO.refl _ | exact LeO.none _) : LeO a b := h
section
variable {P : Program} {ops : Array Oper} {rest : List Oper} {o : Oper} {a : Act} {Q : Exit → Act → World → Prop} {S : World → Prop} {ds : List Nat} {md : Region.Mode} {T : Bool × List (List Nat × List Nat)} {B : List Nat}
theorem bx_ {W : World} (N : Tmp) (cs : Array Value) (t : TypeId) (h : ∀ g, g = W.heap.size → ∀ w1, w1.heap[g]? = some (.cells cs t (0, 0)) → Below W.heap.size W w1 → wpList P ops Q rest (a.put o.dst (.pointer (some ⟨g, 0, none⟩))) w1) (hgd : o.guard = none := by rfl) (hd : o.dst = some N := by rfl) (hrun : (execOp a.eval o).run P W = .ok (.value (.pointer (some ⟨W.heap.size, 0, none⟩))) (W.alloc (.cells cs t (0, 0))) := by first | (go_simp; done) | (go_simp; rfl)) : wpList P ops Q (o :: rest) a W := box_event hgd hd hrun h
theorem gL_ {w : World} (N : Option Tmp) {f : FuncId} {fn : Func} {az : Array Operand} {ts : Array TypeId} (hf : P.funcs[f]? = some fn) (args : Array Value) (hop : o.op = .call { callee := .value (.func f), args := az, argTypes := ts }) (hargs : az.map a.eval = args) (h : Calls P f args w fun e w' => ∃ v, e = .returned v ∧ wpList P ops Q rest (a.put N v) w') (hd : o.dst = N := by rfl) (hg : o.guard = none := by rfl) (hname : (fn.name == "runtime.NumGoroutine") = false := by kernel_rfl) (hb : fn.body.isSome = true := by rfl) : wpList P ops Q (o :: rest) a w := goesL_ N hd hg hf hname hb args hop hargs h
theorem gO_ {N : Option Tmp} {w : World} {K : Act → World → Prop} {f : FuncId} {fn : Func} {az : Array Operand} {ts : Array TypeId} (hf : P.funcs[f]? = some fn) (args : Array Value) (hw : Region.wanted o (yielded ops a.tmps) = true) (hN : o.dst = N) (hop : o.op = .call { callee := .value (.func f), args := az, argTypes := ts }) (hargs : az.map a.eval = args) (h : Calls P f args w fun e w' => ∃ v, e = .returned v ∧ K (a.put N v) w') (hname : (fn.name == "runtime.NumGoroutine") = false := by kernel_rfl) (hb : fn.body.isSome = true := by rfl) : if Region.wanted o (yielded ops a.tmps) = true then Oper.wp P o a w K Q else K (a.put N undef) w := goes_ hf hname hb args hw hN hop hargs h
theorem goesF_ {N : Option Tmp} {w : World} {K : Act → World → Prop} {f : FuncId} {fn : Func} {c : Operand} {az : Array Operand} {ts : Array TypeId} (hf : P.funcs[f]? = some fn) (hname : (fn.name == "runtime.NumGoroutine") = false) (hb : fn.body.isSome = true) (args : Array Value) (hw : Region.wanted o (yielded ops a.tmps) = true) (hN : o.dst = N) (hop : o.op = .call { callee := .value c, args := az, argTypes := ts }) (hargs : az.map a.eval = args) (h : Calls P f args w fun e w' => ∃ v, e = .returned v ∧ K (a.put N v) w') (hc : a.eval c = .func (.func f) #[] #[] := by rfl) : if Region.wanted o (yielded ops a.tmps) = true then Oper.wp P o a w K Q else K (a.put N undef) w := by
 refine call_ f args hw hN ?_ h
 have he := enters_ hf hname hb args w
 unfold execOp
 simp [hop, resolve, Deferred.ofValue, invoke, hargs, he, hc]
theorem pu_ (i : Nat) (N : Option Tmp) {v : Value} {fuel : Nat} {l : Array Bool} {w : World} (l' : Array Bool) (hT : Aside0 (rtab md ops = T)) {a' : Act} (h : wpAnyLast P md ops Q S ds fuel l' a' w) (hi : ops[i]? = some o := by rfl) (hN : o.dst = N := by rfl) (hc : anyT T l.toList l'.toList i = true := by kernel_rfl) (hQ : ∀ c a w, Q (.panic c) (a.put o.dst v) w → Q (.panic c) a w := by exact fun _ _ _ h => h) (hg : o.guard = none ∨ True := by exact .inr trivial) (hy : Yields P ops o v a := by exact Or.inl ⟨by rfl, by intro w'; go_simp; with_reducible rfl⟩) (ha : a.put N v = a' := by simp only [Act.put, List.setIfInBounds_toArray, List.set_cons_zero, List.set_cons_succ, i64_w, i32_w]; rfl) : wpAnyLast P md ops Q S ds (fuel + 1) l a w := pure_ l' hi hN (any_of hT.out hc) hQ hy ha h
theorem ta_ (i : Nat) (N : Option Tmp) {v : Value} {fuel : Nat} {l : Array Bool} {w : World} (l' : Array Bool) (hT : Aside0 (rtab md ops = T)) (hB : Aside0 (waitsOk T.2 B = true)) (hS : S w) {a' : Act} (h : wpAnyLast P md ops Q S ds fuel l' a' w) (hi : ops[i]? = some o := by rfl) (hN : o.dst = N := by rfl) (hc : takeW T B ds l.toList l'.toList i = true := by kernel_rfl) (hQ : ∀ c a w, Q (.panic c) (a.put o.dst v) w → Q (.panic c) a w := by exact fun _ _ _ h => h) (hy : YieldsIf P ops S o v a := by exact Or.inl ⟨by rfl, by intro w' hs_; (repeat obtain ⟨s_, hs_⟩ := hs_); go_simp; with_reducible rfl⟩) (ha : a.put N v = a' := by simp only [Act.put, List.setIfInBounds_toArray, List.set_cons_zero, List.set_cons_succ, i64_w, i32_w]; rfl) : wpAnyLast P md ops Q S ds (fuel + 1) l a w := take_ l' hi hN (take_ofW hT.out hB.out hc) hQ hy hS ha h
theorem on_ (i : Nat) (N : Option Tmp) {fuel : Nat} {l : Array Bool} {w : World} (l' : Array Bool) (hT : Aside0 (rtab md ops = T)) (h : ∀ K : Act → World → Prop, Shut (∀ a' w', S w' → (S w' → wpAnyLast P md ops Q S ds fuel l' a' w') → K a' w') → if Region.wanted o (yielded ops a.tmps) = true then Oper.wp P o a w K Q else K (a.put N undef) w) (hi : ops[i]? = some o := by rfl) (hN : o.dst = N := by rfl) (hc : (readyT T.2 l.toList == [i] && l.toList.set i true == l'.toList) = true := by kernel_rfl) (hd : i ∉ ds := by decide) : wpAnyLast P md ops Q S ds (fuel + 1) l a w := one_ l' hi hN (one_of hT.out hc) hd h
theorem no_ {v : Value} {fuel : Nat} {l : Array Bool} {w : World} (N : Option Tmp) {a' : Act} (h : wpAnyLast P md ops Q S ds fuel l a' w) (ha : a.put N v = a' := by simp only [Act.put, List.setIfInBounds_toArray, List.set_cons_zero, List.set_cons_succ, i64_w, i32_w]; rfl) : wpAnyLast P md ops Q S ds fuel l (a.put N v) w := norm_ ha h
end
end Go.Proofs.Ytcggfjpnfodbaaa.A
end
section
namespace Go.Proofs.Ytcggfjpnfodbaaa.A
open Go.RowKit Go.Proofs.YtcggfjpnfodbaaaW.PrintWords Go.Proofs.YtcggfjpnfodbaaaW.PrintLast Go.Proofs.YtcggfjpnfodbaaaW.PrintMore
attribute [local go_sem] max2_int min2_int max_two min_two max_three min_three max_four min_four
set_option linter.unusedVariables false
set_option linter.unusedSimpArgs false
def IsS99 (w0 W : World) (g : Nat) (f0 : List Int) (f1 : Int) (f2 : Int) : Prop := ∃ A0 c0, W.heap[g]? = some (.cells #[.slice A0 f0.length c0, .int .i64 f1, .int .i64 f2] 99 (0, 0)) ∧ w0.heap.size ≤ g ∧ Kd.C (Kd.int .u8) w0 A0 f0.length f0
theorem IsS99.grown {w0 W : World} {g : Nat} {f0 : List Int} {f1 : Int} {f2 : Int} {W1 : World} {row : Option Nat} (h : IsS99 w0 W g f0 f1 f2) (hw : W.grownBy W1 row) (hne : some g ≠ row) : IsS99 w0 W1 g f0 f1 f2 := by
 obtain ⟨A0, c0, hb, hg, hr0⟩ := h
 exact ⟨A0, c0, blk_grown hb hw hne, hg, hr0⟩
theorem IsS99.own_neN {w0 W : World} {g : Nat} {f0 : List Int} {f1 : Int} {f2 : Int} {α : Type} {d : Kd α} {e : Nat} {base : Nat} {ok : Nat → Prop} {v : Value} {xs : List α} (h : IsS99 w0 W g f0 f1 f2) (ho : Kd.N d e W base ok v xs) (ht : e ≠ 99) : some g ≠ v.ownBlock := by
 obtain ⟨A0, c0, hb, hg, hr0⟩ := h
 exact Kd.N_ne ho hb ht
theorem IsS99.fresh {w0 W : World} {g : Nat} {f0 : List Int} {f1 : Int} {f2 : Int} (h : IsS99 w0 W g f0 f1 f2) : ∀ k, W.heap.size ≤ k → k ≠ g := by
 obtain ⟨A0, c0, hb, hg, hr0⟩ := h
 exact Kd.freshB hb
theorem IsS99.kept {w0 W : World} {g : Nat} {f0 : List Int} {f1 : Int} {f2 : Int} {W1 : World} {S : Nat → Prop} (h : IsS99 w0 W g f0 f1 f2) (hk : Kept W W1 S) (hne : ¬ S g) : IsS99 w0 W1 g f0 f1 f2 := by
 obtain ⟨A0, c0, hb, hg, hr0⟩ := h
 exact ⟨A0, c0, blk_kept hb hk hne, hg, hr0⟩
theorem IsS99.below {w0 W : World} {g : Nat} {f0 : List Int} {f1 : Int} {f2 : Int} {W1 : World} (h : IsS99 w0 W g f0 f1 f2) (hw : Below W.heap.size W W1) : IsS99 w0 W1 g f0 f1 f2 := h.grown (grown_of_below hw none) (by simp)
theorem IsS99.alloc {w0 W : World} {g : Nat} {f0 : List Int} {f1 : Int} {f2 : Int} (h : IsS99 w0 W g f0 f1 f2) (o : Obj) : IsS99 w0 (W.alloc o) g f0 f1 f2 := h.below (bA_ (Below.refl _ _) o)
theorem IsS99.drewN {w0 W : World} {g : Nat} {f0 : List Int} {f1 : Int} {f2 : Int} (h : IsS99 w0 W g f0 f1 f2) (m : Nat) : IsS99 w0 (W.drewN m) g f0 f1 f2 := h
theorem IsS99.drew {w0 W : World} {g : Nat} {f0 : List Int} {f1 : Int} {f2 : Int} (h : IsS99 w0 W g f0 f1 f2) : IsS99 w0 W.drew g f0 f1 f2 := h
theorem IsS99.at_ {w0 W : World} {g : Nat} {f0 : List Int} {f1 : Int} {f2 : Int} {w' : World} {m : Nat} (hq : W.drewN m = w') (h : IsS99 w0 W g f0 f1 f2) : IsS99 w0 w' g f0 f1 f2 := by subst hq; exact IsS99.drewN h m
theorem IsS99.apart {w0 W : World} {g : Nat} {f0 : List Int} {f1 : Int} {f2 : Int} {α : Type} {d : Kd α} {e : Nat} {base : Nat} {ok : Nat → Prop} {v : Value} {xs : List α} (h : IsS99 w0 W g f0 f1 f2) (ho : d.R e W base ok v xs) (ht : ∀ q, q ∈ e :: d.E → q ≠ 99) : d.R e W base (fun k => ok k ∧ k ≠ g) v xs := by
 obtain ⟨A0, c0, hb, hg, hr0⟩ := h
 exact Kd.R_types ho hb ht
theorem IsS99.own_ne {w0 W : World} {g : Nat} {f0 : List Int} {f1 : Int} {f2 : Int} {α : Type} {d : Kd α} {e : Nat} {base : Nat} {ok : Nat → Prop} {v : Value} {xs : List α} (h : IsS99 w0 W g f0 f1 f2) (ho : d.R e W base ok v xs) (ht : e ≠ 99) : some g ≠ v.ownBlock := by
 obtain ⟨A0, c0, hb, hg, hr0⟩ := h
 exact Kd.R_ne ho hb ht
theorem IsS99.apartQ {w0 W : World} {g : Nat} {f0 : List Int} {f1 : Int} {f2 : Int} {α : Type} {d : Kd α} {e : Nat} {base : Nat} {ok : Nat → Prop} {v : Value} {xs : List α} (h : IsS99 w0 W g f0 f1 f2) (ho : d.Q e W base ok v xs) (ht : ∀ q, q ∈ e :: d.E → q ≠ 99) : d.Q e W base (fun k => ok k ∧ k ≠ g) v xs := by
 obtain ⟨A0, c0, hb, hg, hr0⟩ := h
 exact Kd.Q_types ho hb ht
theorem IsS99.own_neQ {w0 W : World} {g : Nat} {f0 : List Int} {f1 : Int} {f2 : Int} {α : Type} {d : Kd α} {e : Nat} {base : Nat} {ok : Nat → Prop} {v : Value} {xs : List α} (h : IsS99 w0 W g f0 f1 f2) (ho : d.Q e W base ok v xs) (ht : e ≠ 99) : some g ≠ v.ownBlock := by
 obtain ⟨A0, c0, hb, hg, hr0⟩ := h
 exact Kd.Q_ne ho hb ht
theorem IsS99.apartS {w0 W : World} {g : Nat} {f0 : List Int} {f1 : Int} {f2 : Int} {α : Type} {d : Kd α} {e : Nat} {base : Nat} {ok : Nat → Prop} {v : Value} {xs : List α} (h : IsS99 w0 W g f0 f1 f2) (ho : d.S e W base ok v xs) (ht : ∀ q, q ∈ e :: d.E → q ≠ 99) : d.S e W base (fun k => ok k ∧ k ≠ g) v xs := by
 obtain ⟨A0, c0, hb, hg, hr0⟩ := h
 exact Kd.S_types ho hb ht
theorem IsS99.own_neS {w0 W : World} {g : Nat} {f0 : List Int} {f1 : Int} {f2 : Int} {α : Type} {d : Kd α} {e : Nat} {base : Nat} {ok : Nat → Prop} {v : Value} {xs : List α} (h : IsS99 w0 W g f0 f1 f2) (ho : d.S e W base ok v xs) (ht : e ≠ 99) : some g ≠ v.ownBlock := by
 obtain ⟨A0, c0, hb, hg, hr0⟩ := h
 exact Kd.S_ne ho hb ht
theorem IsS99.lt {w0 W : World} {g : Nat} {f0 : List Int} {f1 : Int} {f2 : Int} (h : IsS99 w0 W g f0 f1 f2) : g < W.heap.size := by
 obtain ⟨A0, c0, hb, hg, hr0⟩ := h
 exact blk_lt hb
theorem IsS99.ge {w0 W : World} {g : Nat} {f0 : List Int} {f1 : Int} {f2 : Int} (h : IsS99 w0 W g f0 f1 f2) : w0.heap.size ≤ g := by
 obtain ⟨A0, c0, hb, hg, hr0⟩ := h
 exact hg
theorem IsS99.ne_blk {w0 W : World} {g : Nat} {f0 : List Int} {f1 : Int} {f2 : Int} {a : Nat} {cs : Array Value} {t : TypeId} {fr : Nat × Nat} (h : IsS99 w0 W g f0 f1 f2) (hb2 : W.heap[a]? = some (.cells cs t fr)) (ht : t ≠ 99) : g ≠ a := by
 obtain ⟨A0, c0, hb, hg, hr0⟩ := h
 rintro rfl
 rw [hb] at hb2
 injection hb2 with hb2
 injection hb2 with _ ht2
 exact ht ht2.symm
theorem IsS99.far {w0 W : World} {g : Nat} {f0 : List Int} {f1 : Int} {f2 : Int} {p : Addr} (h : IsS99 w0 W g f0 f1 f2) (hne : g ≠ p.block) (u : Value) : IsS99 w0 (W.setCell p u) g f0 f1 f2 := by
 obtain ⟨A0, c0, hb, hg, hr0⟩ := h
 exact ⟨A0, c0, blk_far hb hne u, hg, hr0⟩
theorem cellS99_0 {W : World} {g : Nat} {A0 : Option Addr} {c0 : Nat} {f0 : List Int} {f1 : Int} {f2 : Int} (h : W.heap[g]? = some (.cells #[.slice A0 f0.length c0, .int .i64 f1, .int .i64 f2] 99 (0, 0))) : W.cell? ⟨g, 0, none⟩ = some (.slice A0 f0.length c0) := (blk_cell h 0).trans rfl
theorem cellS99_1 {W : World} {g : Nat} {A0 : Option Addr} {c0 : Nat} {f0 : List Int} {f1 : Int} {f2 : Int} (h : W.heap[g]? = some (.cells #[.slice A0 f0.length c0, .int .i64 f1, .int .i64 f2] 99 (0, 0))) : W.cell? ⟨g, 1, none⟩ = some (.int .i64 f1) := (blk_cell h 1).trans rfl
theorem IsS99.set_1 {w0 W : World} {g : Nat} {f0 : List Int} {f1 : Int} {f2 : Int} (h : IsS99 w0 W g f0 f1 f2) (x : Int) : IsS99 w0 (W.setCell ⟨g, 1, none⟩ (.int .i64 x)) g f0 x f2 := by
 obtain ⟨A0, c0, hb, hg, hr0⟩ := h
 exact ⟨A0, c0, by simpa using blk_set hb 1 (.int .i64 x), hg, hr0⟩
theorem cellS99_2 {W : World} {g : Nat} {A0 : Option Addr} {c0 : Nat} {f0 : List Int} {f1 : Int} {f2 : Int} (h : W.heap[g]? = some (.cells #[.slice A0 f0.length c0, .int .i64 f1, .int .i64 f2] 99 (0, 0))) : W.cell? ⟨g, 2, none⟩ = some (.int .i64 f2) := (blk_cell h 2).trans rfl
theorem IsS99.set_2 {w0 W : World} {g : Nat} {f0 : List Int} {f1 : Int} {f2 : Int} (h : IsS99 w0 W g f0 f1 f2) (x : Int) : IsS99 w0 (W.setCell ⟨g, 2, none⟩ (.int .i64 x)) g f0 f1 x := by
 obtain ⟨A0, c0, hb, hg, hr0⟩ := h
 exact ⟨A0, c0, by simpa using blk_set hb 2 (.int .i64 x), hg, hr0⟩
theorem IsS99.new (w0 W : World) (A0 : Option Addr) (c0 : Nat) (f0 : List Int) (f1 : Int) (f2 : Int) (hB : Below w0.heap.size w0 W) (hr0 : Kd.C (Kd.int .u8) w0 A0 f0.length f0) : IsS99 w0 (W.alloc (.cells #[.slice A0 f0.length c0, .int .i64 f1, .int .i64 f2] 99)) W.heap.size f0 f1 f2 := ⟨A0, c0, by simpa using heap_alloc_new W _, hB.size, hr0⟩
def Z46.f (s0_0 : List Int) (s0_1 : Int) (s0_2 : Int) : Option (Int × Int × Int) := if s0_1 < (s0_0.length : Int) then (if 0 ≤ s0_1 then (some (Go.bits .and .i64 (wrap64 ((Go.bits .and .i64 (Go.bits .xor .i64 ((wrap64 ((wrap64 (s0_2 * 6364136223846793005)) + 1442695040888963407)) / 8589934592) ((wrap64 ((wrap64 (s0_2 * 6364136223846793005)) + 1442695040888963407)) / 35184372088832)) 255) + (wrap64 (rd s0_0 s0_1)))) 255, wrap64 (s0_1 + 1), wrap64 ((wrap64 (s0_2 * 6364136223846793005)) + 1442695040888963407))) else (none)) else (some (Go.bits .and .i64 (Go.bits .xor .i64 ((wrap64 ((wrap64 (s0_2 * 6364136223846793005)) + 1442695040888963407)) / 8589934592) ((wrap64 ((wrap64 (s0_2 * 6364136223846793005)) + 1442695040888963407)) / 35184372088832)) 255, s0_1, wrap64 ((wrap64 (s0_2 * 6364136223846793005)) + 1442695040888963407)))
set_option maxHeartbeats 8000000 in
set_option maxRecDepth 100000 in
theorem Z46.calls (g : Nat) (s0_0 : List Int) (s0_1 : Int) (s0_2 : Int) (r1 : Int) (r2 : Int) (r3 : Int) (w0 w : World) (hI : IsS99 w0 w g s0_0 s0_1 s0_2) (hB : Below w0.heap.size w0 w) (h : Z46.f s0_0 s0_1 s0_2 = some (r1, r2, r3)) :
  Calls Try.prog 71 #[.pointer (some ⟨g, 0, none⟩)] w fun e w' => e = .returned (.int .i64 r1) ∧ IsS99 w0 w' g s0_0 r2 r3 ∧ Below w0.heap.size w0 w' ∧ KeepBut w w' g none := by
 have HI0 := A_ hI
 have HK := A_ (KeepBut.refl w g none)
 have HL := A_ hB.size
 clear hI
 have HW0 := A_ hB.size
 have HB := A_ hB
 clear hB
 have H := h
 unfold Z46.f at H
 clear h
 by_cases c2 : s0_1 < (s0_0.length : Int)
 ·rw [if_pos c2] at H
  have c2b0 := oC_ c2
  clear c2
  have c3 := cp_ H
  replace H := ca_ H
  have c3b0 := oC_ c3
  clear c3
  simp only [Option.some.injEq, Prod.mk.injEq] at H
  obtain ⟨rfl, rfl, rfl⟩ := H
  obtain ⟨ASz4_0, cSz4_0, HGz4, hgz4, HSz4_0⟩ := HI0.out
  have hcz4_0 := cellS99_0 HGz4
  have hcz4_1 := cellS99_1 HGz4
  have hcz4_2 := cellS99_2 HGz4
  have hfz4_1 := kD_ HGz4 1
  have hfz4_2 := kD_ HGz4 2
  clear HGz4 hgz4
  have p128 : 0 ≤ (s0_1 : Int) := oB_ qe_
  have q128 : s0_1 < (s0_0.length : Int) := oB_ qe_
  obtain ⟨ad128, e128, hx128_0⟩ := Kd.at_int HSz4_0 s0_1 p128 q128
  cases e128
  have hn128_0 : ad128.block ≠ g := Nat.ne_of_lt (Nat.lt_of_lt_of_le (by have := World.block_lt_of_cell? _ _ hx128_0; first | rwa [add_block] at this | exact this) (IsS99.ge HI0.out))
  replace hx128_0 := pw_cell_below HB.out hx128_0
  replace hx128_0 := (cell_far (p := ⟨g, 2, none⟩) (by first | (rw [add_block]; exact hn128_0) | (show (Addr.add _ _).block ≠ _; rw [add_block]; exact hn128_0) | exact hn128_0) (.int .i64 (wrap64 ((wrap64 (s0_2 * 6364136223846793005)) + 1442695040888963407)))).trans hx128_0
  (try have hy128_0 := fun (n_ : Nat) => (show (((w.drewN n_).setCell ⟨g, 2, none⟩ (.int .i64 (wrap64 ((wrap64 (s0_2 * 6364136223846793005)) + 1442695040888963407))))).cell? _ = some _ from hx128_0))
  clear hn128_0
  replace p128 := eq_true p128
  replace q128 := eq_true q128
  go_enter Try.func71, Try.ntmps71
  go_wp2
  repeat (go_quiet (fail); try go_wp2)
  go_ret
  exact ⟨qb_, hI_IsS99_HI0, hBI_, hK_⟩
 ·rw [if_neg c2] at H
  have c2b0 := oD_ c2
  clear c2
  simp only [Option.some.injEq, Prod.mk.injEq] at H
  obtain ⟨rfl, rfl, rfl⟩ := H
  obtain ⟨ASz5_0, cSz5_0, HGz5, hgz5, HSz5_0⟩ := HI0.out
  have hcz5_0 := cellS99_0 HGz5
  have hcz5_1 := cellS99_1 HGz5
  have hcz5_2 := cellS99_2 HGz5
  have hfz5_1 := kD_ HGz5 1
  have hfz5_2 := kD_ HGz5 2
  clear HGz5 hgz5
  go_enter Try.func71, Try.ntmps71
  go_wp2
  repeat (go_quiet (fail); try go_wp2)
  go_ret
  exact ⟨qb_, hI_IsS99_HI0, hBI_, hK_⟩
def Z56.f (a0 : Int) (a1 : Int) (a2 : Int) : Option (Bool) := if a0 ≥ a1 then (some (decide (a0 ≤ a2))) else (some false)
set_option maxHeartbeats 8000000 in
set_option maxRecDepth 100000 in
theorem Z56.calls (a0 : Int) (a1 : Int) (a2 : Int) (r : Bool) (w : World) (h : Z56.f a0 a1 a2 = some r) :
  Calls Try.prog 128 #[.int .i64 a0, .int .i64 a1, .int .i64 a2] w fun e w' => e = .returned (.bool r) ∧ Drawn0 w w' := by
 have H := h
 unfold Z56.f at H
 clear h
 by_cases c4 : a0 ≥ a1
 ·rw [if_pos c4] at H
  have c4b0 : decide (a1 ≤ a0) = true := oC_ c4
  clear c4
  obtain rfl := Option.some.inj H
  go_enter Try.func128, Try.ntmps128
  go_wp2
  go_ret
  exact ⟨qc_, by repeat (first | exact Drawn0.refl _ | apply Drawn0.step)⟩
 ·rw [if_neg c4] at H
  have c4b0 : decide (a1 ≤ a0) = false := oD_ c4
  clear c4
  obtain rfl := Option.some.inj H
  go_enter Try.func128, Try.ntmps128
  go_wp2
  go_ret
  exact ⟨qc_, by repeat (first | exact Drawn0.refl _ | apply Drawn0.step)⟩
def Z52.l0 : Nat → Int → List Int → Int → Int → Option (Bool)
 | 0, _, _, _, _ => none
 | k + 1, x1, x7, x8, x9 => if x9 < x8 then (if 0 ≤ x9 then (if x9 < (x7.length : Int) then (if (rd x7 x9) = x1 then (some true) else (Z52.l0 k x1 x7 x8 (wrap64 (x9 + 1)))) else (none)) else (none)) else (some false)
def Z52.f (k : Nat) (l0 : List Int) (a1 : Int) : Option (Bool) := Z52.l0 k a1 l0 (l0.length : Int) 0
theorem Z52.mono_l : ∀ k, (∀ y0 y1 y2 y3, LeO (Z52.l0 k y0 y1 y2 y3) (Z52.l0 (k + 1) y0 y1 y2 y3))
 | 0 => fun _ _ _ _ r h => by simp [Z52.l0] at h
 | k + 1 => by
  have ih0 := Z52.mono_l k
  ·intro y0 y1 y2 y3
   unfold Z52.l0
   repeat' first|exact ih0 _ _ _ _|exact lo_|refine LeO.ite ?_ ?_|refine LeO.bind ?_ (fun _ => ?_)
theorem Z52.mono : ∀ a0 a1 k, LeO (Z52.f k a0 a1) (Z52.f (k + 1) a0 a1) := by
 intro a0 a1 k
 have ih0 := Z52.mono_l k
 unfold Z52.f
 repeat' first|exact ih0 _ _ _ _|exact lo_|refine LeO.ite ?_ ?_|refine LeO.bind ?_ (fun _ => ?_)
set_option maxHeartbeats 8000000 in
set_option maxRecDepth 100000 in
theorem Z52.calls (k : Nat) (A0 : Option Addr) (c0 : Nat) (l0 : List Int) (a1 : Int) (r : Bool) (w : World) (hr0 : Kd.C (Kd.int .i64) w A0 l0.length l0) (hc0 : l0.length ≤ c0) (h : Z52.f k l0 a1 = some r) :
  Calls Try.prog 163 #[.slice A0 l0.length c0, .int .i64 a1] w fun e w' => e = .returned (.bool r) ∧ Drawn0 w w' := by
 have HR0 := A_ hr0
 have HC0 := A_ hc0
 clear hr0 hc0
 have H := h
 unfold Z52.f at H
 clear h
 have H' := A_ H
 clear H
 go_enter Try.func163, Try.ntmps163
 go_wp2
 go_loopg [9] k (fun kq v9 w' => ∃ (x9_1 : Int), v9 = .int .i64 x9_1 ∧ Aside0 (Z52.l0 kq a1 l0 (l0.length : Int) x9_1 = some r) ∧ Aside0 (kq ≤ k) ∧ Drawn0 w w')
 case atStart => exact ⟨(0), qc_, H', ⟨nA_ _⟩, by repeat (first | exact Drawn0.refl _ | apply Drawn0.step)⟩
 case round =>
  clear H'
  obtain ⟨x9_1, rfl, HA, HK1, ⟨m1, rfl⟩⟩ := hrel
  cases gk with
  | zero => exact absurd HA.out (by simp [Z52.l0])
  | succ k1 =>
   have H := HA.out
   clear HA
   simp only [Z52.l0] at H
   by_cases c3 : x9_1 < (l0.length : Int)
   ·rw [if_pos c3] at H
    have c3b0 := oC_ c3
    clear c3
    have c4 := cp_ H
    replace H := ca_ H
    have c4b0 := oC_ c4
    clear c4
    have c5 := cp_ H
    replace H := ca_ H
    have c5b0 := oC_ c5
    clear c5
    by_cases c6 : (rd l0 x9_1) = a1
    ·rw [if_pos c6] at H
     have c6b0 : ((rd l0 x9_1) == a1) = true := beq_iff_eq.mpr c6
     have c6b1 : ((rd l0 x9_1) != a1) = false := bne_eq_false_iff_eq.mpr c6
     clear c6
     obtain rfl := Option.some.inj H
     have p101 : 0 ≤ (x9_1 : Int) := oB_ qe_
     have q101 : x9_1 < (l0.length : Int) := oB_ qe_
     obtain ⟨ad101, e101, hx101_0⟩ := Kd.at_int HR0.out x9_1 p101 q101
     cases e101
     replace p101 := eq_true p101
     replace q101 := eq_true q101
     go_wp2
     go_ret
     exact ⟨qc_, by repeat (first | exact Drawn0.refl _ | apply Drawn0.step)⟩
    ·rw [if_neg c6] at H
     have c6b0 : ((rd l0 x9_1) == a1) = false := beq_eq_false_iff_ne.mpr c6
     have c6b1 : ((rd l0 x9_1) != a1) = true := bne_iff_ne.mpr c6
     have H' := A_ H
     clear H
     have p101 : 0 ≤ (x9_1 : Int) := oB_ qe_
     have q101 : x9_1 < (l0.length : Int) := oB_ qe_
     obtain ⟨ad101, e101, hx101_0⟩ := Kd.at_int HR0.out x9_1 p101 q101
     cases e101
     replace p101 := eq_true p101
     replace q101 := eq_true q101
     go_wp2
     go_roundg k1
     case measure => have := HK1.out; omega
     case rel => exact ⟨(wrap64 (x9_1 + 1)), qc_, H', ⟨by have := HK1.out; omega⟩, by repeat (first | exact Drawn0.refl _ | apply Drawn0.step)⟩
   ·rw [if_neg c3] at H
    have c3b0 := oD_ c3
    clear c3
    obtain rfl := Option.some.inj H
    go_wp2
    go_ret
    exact ⟨qc_, by repeat (first | exact Drawn0.refl _ | apply Drawn0.step)⟩
def Z50.l0 : Nat → List Int → List Int → Int → Int → Option (Bool)
 | 0, _, _, _, _ => none
 | k + 1, x0, x8, x9, x10 => if x10 < x9 then (if 0 ≤ x10 then (if x10 < (x8.length : Int) then ((Z56.f (rd x8 x10) 0 (wrap64 ((x0.length : Int) - 1))).bind fun t103 => (if t103 = true then (if x10 ≤ (x0.length : Int) then ((Z52.f k (x0.take (x10 : Int).toNat) (rd x8 x10)).bind fun t105 => (if t105 = true then (some false) else (Z50.l0 k x0 x8 x9 (wrap64 (x10 + 1))))) else (none)) else (some false))) else (none)) else (none)) else (some true)
def Z50.f (k : Nat) (l0 : List Int) : Option (Bool) := if (l0.length : Int) > 24 then (some false) else (Z50.l0 k l0 l0 (l0.length : Int) 0)
theorem Z50.mono_l : ∀ k, (∀ y0 y1 y2 y3, LeO (Z50.l0 k y0 y1 y2 y3) (Z50.l0 (k + 1) y0 y1 y2 y3))
 | 0 => fun _ _ _ _ r h => by simp [Z50.l0] at h
 | k + 1 => by
  have ih0 := Z50.mono_l k
  ·intro y0 y1 y2 y3
   unfold Z50.l0
   repeat' first
   | (with_reducible exact ih0 _ _ _ _)
   | (with_reducible exact Z52.mono _ _ _)
   | (with_reducible exact LeO.refl _)
   | (with_reducible exact LeO.none _)
   | (with_reducible refine LeO.ite ?_ ?_)
   | (with_reducible refine LeO.bind ?_ (fun _ => ?_))
   | exact ih0 _ _ _ _
   | exact Z52.mono _ _ _
   | exact LeO.none _
   | refine LeO.ite ?_ ?_
   | refine LeO.bind ?_ (fun _ => ?_)
theorem Z50.mono : ∀ a0 k, LeO (Z50.f k a0) (Z50.f (k + 1) a0) := by
 intro a0 k
 have ih0 := Z50.mono_l k
 unfold Z50.f
 repeat' first
   | (with_reducible exact ih0 _ _ _ _)
   | (with_reducible exact Z52.mono _ _ _)
   | (with_reducible exact LeO.refl _)
   | (with_reducible exact LeO.none _)
   | (with_reducible refine LeO.ite ?_ ?_)
   | (with_reducible refine LeO.bind ?_ (fun _ => ?_))
   | exact ih0 _ _ _ _
   | exact Z52.mono _ _ _
   | exact LeO.none _
   | refine LeO.ite ?_ ?_
   | refine LeO.bind ?_ (fun _ => ?_)
set_option maxHeartbeats 8000000 in
set_option maxRecDepth 100000 in
theorem Z50.calls (k : Nat) (A0 : Option Addr) (c0 : Nat) (l0 : List Int) (r : Bool) (w : World) (hr0 : Kd.C (Kd.int .i64) w A0 l0.length l0) (hc0 : l0.length ≤ c0) (h : Z50.f k l0 = some r) :
  Calls Try.prog 146 #[.slice A0 l0.length c0] w fun e w' => e = .returned (.bool r) ∧ Drawn0 w w' := by
 have HR0 := A_ hr0
 have HC0 := A_ hc0
 clear hr0 hc0
 have H : (if (l0.length : Int) > 24 then (some false) else (Z50.l0 k l0 l0 (l0.length : Int) 0)) = some r := h
 clear h
 by_cases c2 : (l0.length : Int) > 24
 ·rw [if_pos c2] at H
  have c2b0 : decide (24 < (l0.length : Int)) = true := oC_ c2
  have c2b1 : decide (24 < l0.length) = true := oC_ (by omega)
  clear c2
  obtain rfl := Option.some.inj H
  go_enter Try.func146, Try.ntmps146
  go_wp2
  go_ret
  exact ⟨by first | rfl | (simp; done) | (simp [*]; done), by repeat (first | exact Drawn0.refl _ | apply Drawn0.step)⟩
 ·rw [if_neg c2] at H
  have c2b0 : decide (24 < (l0.length : Int)) = false := oD_ c2
  have c2b1 : decide (24 < l0.length) = false := oD_ (by omega)
  clear c2
  have H' := A_ H
  clear H
  go_enter Try.func146, Try.ntmps146
  go_wp2
  go_loopg [10] k (fun kq v10 w' => ∃ (x10_1 : Int), v10 = .int .i64 x10_1 ∧ Aside0 (Z50.l0 kq l0 l0 (l0.length : Int) x10_1 = some r) ∧ Aside0 (kq ≤ k) ∧ Drawn0 w w')
  case atStart => exact ⟨(0), (by first | rfl | (simp; done) | (simp [*]; done)), H', ⟨nA_ _⟩, by repeat (first | exact Drawn0.refl _ | apply Drawn0.step)⟩
  case round =>
   clear H'
   (try clear c1); (try clear c2); (try clear c2b0); (try clear c2b1); (try clear p2)
   obtain ⟨x10_1, rfl, HA, HK1, ⟨m1, rfl⟩⟩ := hrel
   cases gk with
   | zero => exact absurd HA.out (by simp [Z50.l0])
   | succ k1 =>
    have H := HA.out
    clear HA
    simp only [Z50.l0] at H
    by_cases c3 : x10_1 < (l0.length : Int)
    ·rw [if_pos c3] at H
     have c3b0 : decide (x10_1 < (l0.length : Int)) = true := oC_ c3
     clear c3
     by_cases c4 : 0 ≤ x10_1
     ·rw [if_pos c4] at H
      have c4b0 : decide (0 ≤ x10_1) = true := oC_ c4
      clear c4
      by_cases c5 : x10_1 < (l0.length : Int)
      ·rw [if_pos c5] at H
       have c5b0 : decide (x10_1 < (l0.length : Int)) = true := oC_ c5
       clear c5
       replace H := Option.bind_eq_some_iff.mp H
       obtain ⟨t103, A60, H⟩ := H
       replace H : (if t103 = true then (if x10_1 ≤ (l0.length : Int) then ((Z52.f k1 (l0.take (x10_1 : Int).toNat) (rd l0 x10_1)).bind fun t105 => (if t105 = true then (some false) else (Z50.l0 k1 l0 l0 (l0.length : Int) (wrap64 (x10_1 + 1))))) else (none)) else (some false)) = some r := H
       have A6 := A_ A60
       clear A60
       by_cases c7 : t103 = true
       ·subst c7
        have H1 : (if x10_1 ≤ (l0.length : Int) then ((Z52.f k1 (l0.take (x10_1 : Int).toNat) (rd l0 x10_1)).bind fun t105 => (if t105 = true then (some false) else (Z50.l0 k1 l0 l0 (l0.length : Int) (wrap64 (x10_1 + 1))))) else (none)) = some r := by rw [if_pos rfl] at H; exact H
        clear H
        have H := H1
        clear H1
        have c8b0 := eq_true (oB_ (by first | (with_reducible assumption) | assumption) : 0 ≤ x10_1)
        by_cases c9 : x10_1 ≤ (l0.length : Int)
        ·rw [if_pos c9] at H
         have c9b0 := eq_true c9
         have c9b1 : decide (x10_1 ≤ (l0.length : Int)) = true := oC_ c9
         clear c9
         replace H := Option.bind_eq_some_iff.mp H
         obtain ⟨t105, A100, H⟩ := H
         replace H : (if t105 = true then (some false) else (Z50.l0 k1 l0 l0 (l0.length : Int) (wrap64 (x10_1 + 1)))) = some r := H
         have A10 := A_ A100
         clear A100
         by_cases c11 : t105 = true
         ·subst c11
          have H1 : (some false) = some r := by rw [if_pos rfl] at H; exact H
          clear H
          have H := H1
          clear H1
          obtain rfl := Option.some.inj H
          have p102 : 0 ≤ (x10_1 : Int) := oB_ (by first | (with_reducible assumption) | assumption)
          have q102 : x10_1 < (l0.length : Int) := oB_ (by first | (with_reducible assumption) | assumption)
          obtain ⟨ad102, e102, hx102_0⟩ := Kd.at_int HR0.out x10_1 p102 q102
          cases e102
          replace p102 := eq_true p102
          replace q102 := eq_true q102
          have HL_ := A_ (show (x10_1 : Int).toNat = (l0.take (x10_1 : Int).toNat).length by rw [lB_]; have := of_eq_true q102; omega)
          go_wp2_with (first | ((with_reducible refine gA_ (f := 128) rfl ?_); refine goesL_ (some 19) rfl rfl Try.func128 (by kernel_rfl) rfl #[.int .i64 (rd l0 x10_1), .int .i64 0, .int .i64 (wrap64 ((l0.length : Int) - 1))] rfl (by (try simp only [mA_, mB_, mC_]); first | done | rfl | (simp only [lA_, lB_]; rfl)) ?_; (with_reducible refine (Z56.calls (rd l0 x10_1) 0 (wrap64 ((l0.length : Int) - 1)) true _ A6.out).mono ?_); rintro e w' ⟨rfl, ⟨nd, rfl⟩⟩; refine ⟨_, rfl, ?_⟩; obtain ⟨i012, hi012, _, hsz12, _⟩ := info_parts info3; obtain ⟨hcut12, hA12, hC12⟩ := print_take_of (P := Try.prog) (Value.int .i64) 0 23 3 .i64 Try.underlying23 hi012 hsz12 (some ad102) c0 l0 x10_1 (oB_ (by first | (with_reducible assumption) | assumption)) (oB_ (by first | (with_reducible assumption) | assumption)) HC0.out; have HR104 := A_ (Kd.C_of_reads (h1 := fun _ => rfl) (hA12 _ (Kd.reads_of_C HR0.out))); have HC104 := A_ hC12; clear hA12 hC12 hi012 hsz12) | (go_at_call 163; refine calls_of_args (congrArg (fun n_ => #[Value.slice _ n_ _, _]) HL_.out) ?_; (with_reducible refine (Z52.calls k1 _ _ (l0.take (x10_1 : Int).toNat) (rd l0 x10_1) true _ ?side1 ?side2 A10.out).mono ?_); (case side1 => repeat (first | exact HR104.out | (with_reducible first | refine cA_ ?_ _ | refine cB_ ?_ _ | refine cC_ ?_))); (case side2 => exact HC104.out); rintro e w' ⟨rfl, ⟨nd, rfl⟩⟩))
          go_ret
          exact ⟨by first | rfl | (simp; done) | (simp [*]; done), by repeat (first | exact Drawn0.refl _ | apply Drawn0.step)⟩
         ·replace c11 := Bool.eq_false_iff.mpr c11
          subst c11
          have H1 : (Z50.l0 k1 l0 l0 (l0.length : Int) (wrap64 (x10_1 + 1))) = some r := by rw [if_neg (show ¬ (false = true) by decide)] at H; exact H
          clear H
          have H := H1
          clear H1
          have H' := A_ H
          clear H
          have p102 : 0 ≤ (x10_1 : Int) := oB_ (by first | (with_reducible assumption) | assumption)
          have q102 : x10_1 < (l0.length : Int) := oB_ (by first | (with_reducible assumption) | assumption)
          obtain ⟨ad102, e102, hx102_0⟩ := Kd.at_int HR0.out x10_1 p102 q102
          cases e102
          replace p102 := eq_true p102
          replace q102 := eq_true q102
          have HL_ := A_ (show (x10_1 : Int).toNat = (l0.take (x10_1 : Int).toNat).length by rw [lB_]; have := of_eq_true q102; omega)
          go_wp2_with (first | ((with_reducible refine gA_ (f := 128) rfl ?_); refine goesL_ (some 19) rfl rfl Try.func128 (by kernel_rfl) rfl #[.int .i64 (rd l0 x10_1), .int .i64 0, .int .i64 (wrap64 ((l0.length : Int) - 1))] rfl (by (try simp only [mA_, mB_, mC_]); first | done | rfl | (simp only [lA_, lB_]; rfl)) ?_; (with_reducible refine (Z56.calls (rd l0 x10_1) 0 (wrap64 ((l0.length : Int) - 1)) true _ A6.out).mono ?_); rintro e w' ⟨rfl, ⟨nd, rfl⟩⟩; refine ⟨_, rfl, ?_⟩; obtain ⟨i013, hi013, _, hsz13, _⟩ := info_parts info3; obtain ⟨hcut13, hA13, hC13⟩ := print_take_of (P := Try.prog) (Value.int .i64) 0 23 3 .i64 Try.underlying23 hi013 hsz13 (some ad102) c0 l0 x10_1 (oB_ (by first | (with_reducible assumption) | assumption)) (oB_ (by first | (with_reducible assumption) | assumption)) HC0.out; have HR104 := A_ (Kd.C_of_reads (h1 := fun _ => rfl) (hA13 _ (Kd.reads_of_C HR0.out))); have HC104 := A_ hC13; clear hA13 hC13 hi013 hsz13) | (go_at_call 163; refine calls_of_args (congrArg (fun n_ => #[Value.slice _ n_ _, _]) HL_.out) ?_; (with_reducible refine (Z52.calls k1 _ _ (l0.take (x10_1 : Int).toNat) (rd l0 x10_1) false _ ?side1 ?side2 A10.out).mono ?_); (case side1 => repeat (first | exact HR104.out | (with_reducible first | refine cA_ ?_ _ | refine cB_ ?_ _ | refine cC_ ?_))); (case side2 => exact HC104.out); rintro e w' ⟨rfl, ⟨nd, rfl⟩⟩))
          go_roundg k1
          case measure => have := HK1.out; omega
          case rel => exact ⟨(wrap64 (x10_1 + 1)), (by first | rfl | (simp; done) | (simp [*]; done)), H', ⟨by have := HK1.out; omega⟩, by repeat (first | exact Drawn0.refl _ | apply Drawn0.step)⟩
        ·rw [if_neg c9] at H
         exact absurd H (by simp)
       ·replace c7 := Bool.eq_false_iff.mpr c7
        subst c7
        have H1 : (some false) = some r := by rw [if_neg (show ¬ (false = true) by decide)] at H; exact H
        clear H
        have H := H1
        clear H1
        obtain rfl := Option.some.inj H
        have p102 : 0 ≤ (x10_1 : Int) := oB_ (by first | (with_reducible assumption) | assumption)
        have q102 : x10_1 < (l0.length : Int) := oB_ (by first | (with_reducible assumption) | assumption)
        obtain ⟨ad102, e102, hx102_0⟩ := Kd.at_int HR0.out x10_1 p102 q102
        cases e102
        replace p102 := eq_true p102
        replace q102 := eq_true q102
        have HL_ := A_ (show (x10_1 : Int).toNat = (l0.take (x10_1 : Int).toNat).length by rw [lB_]; have := of_eq_true q102; omega)
        go_wp2_with (first | ((with_reducible refine gA_ (f := 128) rfl ?_); refine goesL_ (some 19) rfl rfl Try.func128 (by kernel_rfl) rfl #[.int .i64 (rd l0 x10_1), .int .i64 0, .int .i64 (wrap64 ((l0.length : Int) - 1))] rfl (by (try simp only [mA_, mB_, mC_]); first | done | rfl | (simp only [lA_, lB_]; rfl)) ?_; (with_reducible refine (Z56.calls (rd l0 x10_1) 0 (wrap64 ((l0.length : Int) - 1)) false _ A6.out).mono ?_); rintro e w' ⟨rfl, ⟨nd, rfl⟩⟩; refine ⟨_, rfl, ?_⟩))
        go_ret
        exact ⟨by first | rfl | (simp; done) | (simp [*]; done), by repeat (first | exact Drawn0.refl _ | apply Drawn0.step)⟩
      ·rw [if_neg c5] at H
       exact absurd H (by simp)
     ·rw [if_neg c4] at H
      exact absurd H (by simp)
    ·rw [if_neg c3] at H
     have c3b0 : decide (x10_1 < (l0.length : Int)) = false := oD_ c3
     clear c3
     obtain rfl := Option.some.inj H
     go_wp2
     go_ret
     exact ⟨by first | rfl | (simp; done) | (simp [*]; done), by repeat (first | exact Drawn0.refl _ | apply Drawn0.step)⟩
end Go.Proofs.Ytcggfjpnfodbaaa.A
end
section
namespace Go.Proofs.Ytcggfjpnfodbaaa.A
open Go.RowKit Go.Proofs.YtcggfjpnfodbaaaW.PrintWords Go.Proofs.YtcggfjpnfodbaaaW.PrintLast Go.Proofs.YtcggfjpnfodbaaaW.PrintMore
attribute [local go_sem] max2_int min2_int max_two min_two max_three min_three max_four min_four
set_option linter.unusedVariables false
set_option linter.unusedSimpArgs false
mutual
def Z40.l0 : Nat → List Int → List Int → List Int → Int → Option (List Int)
 | 0, _, _, _, _ => none
 | k + 1, x0, x1, x7, x8 => if x8 < (x7.length : Int) then (if 0 ≤ x8 then (if 0 ≤ (rd x7 x8) then (if (rd x7 x8) < (x0.length : Int) then (if (rd x7 x8) < (x1.length : Int) then ((some (([rd x0 (rd x7 x8), rd x1 (rd x7 x8)] : List Int) : List Int)).bind fun y113 => (Z40.l1 k x0 x1 x7 x8 y113 (y113.length : Int) 0)) else (none)) else (none)) else (none)) else (none)) else (some x7)
def Z40.l1 : Nat → List Int → List Int → List Int → Int → List Int → Int → Int → Option (List Int)
 | 0, _, _, _, _, _, _, _ => none
 | k + 1, x0, x1, x7, x8, x33, x34, x35 => if x35 < x34 then (if 0 ≤ x35 then (if x35 < (x33.length : Int) then ((Z52.f k x7 (rd x33 x35)).bind fun t117 => (if t117 = true then (Z40.l1 k x0 x1 x7 x8 x33 x34 (wrap64 (x35 + 1))) else (if x7.length < 17592186044416 then (Z40.l1 k x0 x1 (x7 ++ [rd x33 x35]) x8 x33 x34 (wrap64 (x35 + 1))) else (none)))) else (none)) else (none)) else (Z40.l0 k x0 x1 x7 (wrap64 (x8 + 1)))
end
def Z40.f (k : Nat) (l0 : List Int) (l1 : List Int) (a2 : Int) : Option (List Int) := Z40.l0 k l0 l1 (([a2] : List Int)) 0
theorem Z40.mono_l : ∀ k, (∀ y0 y1 y2 y3, LeO (Z40.l0 k y0 y1 y2 y3) (Z40.l0 (k + 1) y0 y1 y2 y3)) ∧ (∀ y0 y1 y2 y3 y4 y5 y6, LeO (Z40.l1 k y0 y1 y2 y3 y4 y5 y6) (Z40.l1 (k + 1) y0 y1 y2 y3 y4 y5 y6))
 | 0 => ⟨fun _ _ _ _ r h => by simp [Z40.l0] at h, fun _ _ _ _ _ _ _ r h => by simp [Z40.l1] at h⟩
 | k + 1 => by
  obtain ⟨ih0, ih1⟩ := Z40.mono_l k
  refine ⟨?_, ?_⟩
  ·intro y0 y1 y2 y3
   unfold Z40.l0
   repeat' first|exact ih0 _ _ _ _|exact ih1 _ _ _ _ _ _ _|exact Z52.mono _ _ _|exact lo_|refine LeO.ite ?_ ?_|refine LeO.bind ?_ (fun _ => ?_)
  ·intro y0 y1 y2 y3 y4 y5 y6
   unfold Z40.l1
   repeat' first|exact ih0 _ _ _ _|exact ih1 _ _ _ _ _ _ _|exact Z52.mono _ _ _|exact lo_|refine LeO.ite ?_ ?_|refine LeO.bind ?_ (fun _ => ?_)
theorem Z40.mono : ∀ a0 a1 a2 k, LeO (Z40.f k a0 a1 a2) (Z40.f (k + 1) a0 a1 a2) := by
 intro a0 a1 a2 k
 obtain ⟨ih0, ih1⟩ := Z40.mono_l k
 unfold Z40.f
 repeat' first|exact ih0 _ _ _ _|exact ih1 _ _ _ _ _ _ _|exact Z52.mono _ _ _|exact lo_|refine LeO.ite ?_ ?_|refine LeO.bind ?_ (fun _ => ?_)
def Z40.T5 : Bool × List (List Nat × List Nat) := (true, [([], []), ([], []), ([], []), ([1, 2], [1, 2]), ([3], [3]), ([0, 4], [0, 4]), ([5], [5]), ([], []), ([], []), ([], []), ([8, 9], [8, 9]), ([10], [10]), ([7, 11], [7, 11]), ([12], [12]), ([6, 13], [6, 13]), ([14], [14]), ([], [])])
def Z40.B5 : List Nat := [0, 0, 0, 6, 14, 31, 63, 0, 0, 0, 768, 1792, 3968, 8064, 16383, 32767, 0]
theorem Z40.tab5 : rtab .any (opsOf Try.f147 5) = Z40.T5 := by kernel_rfl
theorem Z40.bits5 : waitsOk Z40.T5.2 Z40.B5 = true := by kernel_rfl
set_option maxHeartbeats 8000000 in
set_option maxRecDepth 100000 in
theorem Z40.calls (k : Nat) (A0 : Option Addr) (c0 : Nat) (l0 : List Int) (A1 : Option Addr) (c1 : Nat) (l1 : List Int) (a2 : Int) (r : List Int) (w : World) (hr0 : Kd.C (Kd.int .i64) w A0 l0.length l0) (hc0 : l0.length ≤ c0) (hr1 : Kd.C (Kd.int .i64) w A1 l1.length l1) (hc1 : l1.length ≤ c1) (h : Z40.f k l0 l1 a2 = some r) :
  Calls Try.prog 147 #[.slice A0 l0.length c0, .slice A1 l1.length c1, .int .i64 a2] w fun e w' => ∃ v0_ : Value, e = .returned (v0_) ∧ Kd.R (Kd.int .i64) 3 w' w.heap.size (fun _ => True) v0_ r ∧ Below w.heap.size w w' := by
 have HR0 := A_ hr0
 have HC0 := A_ hc0
 clear hr0 hc0
 have HR1 := A_ hr1
 have HC1 := A_ hc1
 clear hr1 hc1
 have HB := A_ (Below.refl w.heap.size w)
 have H := h
 unfold Z40.f at H
 clear h
 obtain ⟨y106, hy106⟩ : ∃ y_ : List Int, y_ = (([a2] : List Int)) := ⟨_, rfl⟩
 replace H : (Z40.l0 k l0 l1 y106 0) = some r := by first | (rw [hy106]; exact H) | exact H
 have Ny106 := A_ hy106
 clear hy106
 have H' := A_ H
 clear H
 go_enter Try.func147, Try.ntmps147
 go_wp2_with (first | ((with_reducible refine gB_ (N := 12) rfl ?_); refine Kd.R_lit (Kd.int .i64) _ 3 ?hg (N := 12) ?hd (xs := ([a2] : List Int)) (inner := [.int .i64 a2]) (ok := fun _ => True) (okp := fun _ => True) ?hr ?hp (fun _ hk => hk) trivial (Below.refl _ _) (nA_ _) (by simp) ?_; (case hd => rfl); (case hg => rfl); (case hr => first | (go_simp; done) | (go_simp; rfl)); (case hp => exact (Reps.one (show Kd.M (Kd.int .i64) _ _ _ a2 [.int .i64 a2] from rfl) (Reps.none _ _))); intro v107 w4 ho5 hb hg_ hnew_; clear hg_ hnew_; (first | rw [← Ny106.out] at ho5 | (simp only [Int.reduceToNat] at ho5; rw [← Ny106.out] at ho5)); have HO108 := rl_ w ho5; replace HB := b1_ hb; clear hb ho5))
 go_loopg [7, 8] k (fun kq v7 v8 w' => ∃ (x7_1 : List Int) (x8_1 : Int), v8 = .int .i64 x8_1 ∧ Aside0 (Z40.l0 kq l0 l1 x7_1 x8_1 = some r) ∧ Aside0 (kq ≤ k) ∧ Aside0 (Kd.R (Kd.int .i64) 3 w' w.heap.size (fun _ => True) v7 x7_1) ∧ Aside0 (Below w.heap.size w w'))
 case atStart => exact ⟨(y106), (0), qc_, H', ⟨nA_ _⟩, ⟨(rr_ HO108)⟩, ⟨hB_⟩⟩
 case round =>
  clear H'
  obtain ⟨x7_1, x8_1, rfl, HA, HK1, HO_7, HB⟩ := hrel
  cases gk with
  | zero => exact absurd HA.out (by simp [Z40.l0])
  | succ k1 =>
   have H := HA.out
   clear HA
   simp only [Z40.l0] at H
   by_cases c6 : x8_1 < (x7_1.length : Int)
   ·rw [if_pos c6] at H
    have c6b0 := oC_ c6
    clear c6
    have c7 := cp_ H
    replace H := ca_ H
    have c7b0 := oC_ c7
    clear c7
    have c8 := cp_ H
    replace H := ca_ H
    have c8b0 := oC_ c8
    clear c8
    have c9 := cp_ H
    replace H := ca_ H
    have c9b0 := oC_ c9
    clear c9
    have c10 := cp_ H
    replace H := ca_ H
    have c10b0 := oC_ c10
    clear c10
    obtain ⟨y113, hy113⟩ : ∃ y_ : List Int, y_ = (([rd l0 (rd x7_1 x8_1), rd l1 (rd x7_1 x8_1)] : List Int)) := ⟨_, rfl⟩
    replace H : (Z40.l1 k1 l0 l1 x7_1 x8_1 y113 (y113.length : Int) 0) = some r := by first | (rw [hy113]; exact H) | exact H
    have Ny113 := A_ hy113
    clear hy113
    have H' := A_ H
    clear H
    obtain ⟨Ao11, co11, eo11⟩ := Kd.R_slice HO_7.out
    subst eo11
    try go_wp2
    replace HO_7 := A_ (rC_ HO_7.out)
    replace HB := A_ (bC_ HB.out)
    have p109 : 0 ≤ (x8_1 : Int) := oB_ qe_
    have q109 : x8_1 < (x7_1.length : Int) := oB_ qe_
    obtain ⟨ad109, e109, hx109_0⟩ := Kd.at_int (Kd.R_reads' HO_7.out).2.2 x8_1 p109 q109
    cases e109
    replace p109 := eq_true p109
    replace q109 := eq_true q109
    have p110 : 0 ≤ ((rd x7_1 x8_1) : Int) := oB_ qe_
    have q110 : (rd x7_1 x8_1) < (l0.length : Int) := oB_ qe_
    obtain ⟨ad110, e110, hx110_0⟩ := Kd.at_int HR0.out (rd x7_1 x8_1) p110 q110
    have hw110_0 := hx110_0
    cases e110
    replace hx110_0 := (HB.out.cell (World.block_lt_of_cell? w _ hx110_0)).trans hx110_0
    replace p110 := eq_true p110
    replace q110 := eq_true q110
    have p111 : 0 ≤ (x8_1 : Int) := oB_ qe_
    have q111 : x8_1 < (x7_1.length : Int) := oB_ qe_
    obtain ⟨ad111, e111, hx111_0⟩ := Kd.at_int (Kd.R_reads' HO_7.out).2.2 x8_1 p111 q111
    obtain rfl : ad109 = ad111 := (by injection e111)
    replace p111 := eq_true p111
    replace q111 := eq_true q111
    have p112 : 0 ≤ ((rd x7_1 x8_1) : Int) := oB_ qe_
    have q112 : (rd x7_1 x8_1) < (l1.length : Int) := oB_ qe_
    obtain ⟨ad112, e112, hx112_0⟩ := Kd.at_int HR1.out (rd x7_1 x8_1) p112 q112
    have hw112_0 := hx112_0
    cases e112
    replace hx112_0 := (HB.out.cell (World.block_lt_of_cell? w _ hx112_0)).trans hx112_0
    replace p112 := eq_true p112
    replace q112 := eq_true q112
    refine start_ (n := 17) (S := fun w' => w'.cell? (ad109.add (x8_1).toNat) = some (.int .i64 (rd x7_1 x8_1)) ∧ w'.cell? (ad110.add ((rd x7_1 x8_1)).toNat) = some (.int .i64 (rd l0 (rd x7_1 x8_1))) ∧ w'.cell? (ad109.add (x8_1).toNat) = some (.int .i64 (rd x7_1 x8_1)) ∧ w'.cell? (ad112.add ((rd x7_1 x8_1)).toNat) = some (.int .i64 (rd l1 (rd x7_1 x8_1)))) (ds := []) (bl_ 17 0) (by kernel_rfl) rfl (by kernel_rfl) ⟨hx109_0, ((HB.out.cell (World.block_lt_of_cell? w _ hw110_0)).trans hw110_0), hx111_0, ((HB.out.cell (World.block_lt_of_cell? w _ hw112_0)).trans hw112_0)⟩ (fun hHeld => ?_); refine with_tabW Z40.tab5 Z40.bits5 (fun HT_ HW_ => ?_)
    generalize wr.drew = w12 at HO_7 HB hx109_0 hx110_0 hx111_0 hx112_0 hHeld ⊢
    refine pu_ 0 (some 19) (bl_ 17 1) HT_ ?_
    refine pu_ 1 (some 20) (bl_ 17 3) HT_ ?_
    refine pu_ 2 (some 21) (bl_ 17 7) HT_ ?_
    refine pu_ 3 (some 22) (bl_ 17 15) HT_ ?_
    refine pu_ 7 (some 26) (bl_ 17 143) HT_ ?_
    refine pu_ 8 (some 27) (bl_ 17 399) HT_ ?_
    refine pu_ 9 (some 28) (bl_ 17 911) HT_ ?_
    refine pu_ 10 (some 29) (bl_ 17 1935) HT_ ?_
    refine pu_ 16 (some 35) (bl_ 17 67471) HT_ ?_
    refine ta_ 4 (some 23) (bl_ 17 67487) HT_ HW_ hHeld ?_
    refine pu_ 5 (some 24) (bl_ 17 67519) HT_ ?_
    refine ta_ 6 (some 25) (bl_ 17 67583) HT_ HW_ hHeld ?_
    refine ta_ 11 (some 30) (bl_ 17 69631) HT_ HW_ hHeld ?_
    refine pu_ 12 (some 31) (bl_ 17 73727) HT_ ?_
    refine ta_ 13 (some 32) (bl_ 17 81919) HT_ HW_ hHeld ?_
    refine on_ 14 (some 33) (bl_ 17 98303) HT_ (fun K hK => ?_)
    refine Kd.R_lit_step (Kd.int .i64) _ 3 ?hg (N := 33) ?hd (xs := ([rd l0 (rd x7_1 x8_1), rd l1 (rd x7_1 x8_1)] : List Int)) (inner := [.int .i64 (rd l0 (rd x7_1 x8_1)), .int .i64 (rd l1 (rd x7_1 x8_1))]) (ok := fun _ => True) (okp := fun _ => True) ?hr ?hp (fun _ hk => hk) trivial (Below.refl _ _) (nA_ _) (by simp) ?_; (case hd => rfl); (case hg => rfl); (case hr => first | (go_simp; done) | (go_simp; rfl)); (case hp => exact (Reps.one (show Kd.M (Kd.int .i64) _ _ _ (rd l0 (rd x7_1 x8_1)) [.int .i64 (rd l0 (rd x7_1 x8_1))] from rfl) (Reps.one (show Kd.M (Kd.int .i64) _ _ _ (rd l1 (rd x7_1 x8_1)) [.int .i64 (rd l1 (rd x7_1 x8_1))] from rfl) (Reps.none _ _))))
    intro v114 w13 ho14 hb hg_ hnew_
    have HS0_ := (hb.cell (World.block_lt_of_cell? _ _ (hHeld.1))).trans (hHeld.1)
    have HS2_ := (hb.cell (World.block_lt_of_cell? _ _ (hHeld.2.2.1))).trans (hHeld.2.2.1)
    clear hg_ hnew_
    (first | rw [← Ny113.out] at ho14 | (simp only [Int.reduceToNat] at ho14; rw [← Ny113.out] at ho14))
    have HO115 := A_ (rE_ (Kd.R_new' ho14 (Kd.R_lt (rr_ HO_7))) (bF_ hB_))
    replace HO_7 := A_ (Kd.R_elder' (rr_ HO_7) (Kd.R_base ho14) hb)
    replace HB := b1_ hb
    clear hb ho14
    obtain ⟨Ao15, co15, eo15⟩ := Kd.R_slice HO115.out
    (first | subst eo15 | (injection eo15 with f1_ f2_ f3_; have f4_ := f1_.symm; have f5_ := f3_.symm; clear f1_ f2_ f3_; subst f4_; subst f5_))
    refine hK.out _ _ ⟨HS0_, ((HB.out.cell (World.block_lt_of_cell? w _ hw110_0)).trans hw110_0), HS2_, ((HB.out.cell (World.block_lt_of_cell? w _ hw112_0)).trans hw112_0)⟩ (fun hHeld => ?_)
    clear hK K
    refine no_ (some 33) ?_
    refine pu_ 15 (some 34) (bl_ 17 131071) HT_ ?_
    refine done_ (done_of HT_.out (by kernel_rfl)) ?_
    try go_wp2
    go_loopg [7, 35] k1 (fun kq v7 v35 w' => ∃ (x7_2 : List Int) (x35_2 : Int), v35 = .int .i64 x35_2 ∧ Aside0 (Z40.l1 kq l0 l1 x7_2 x8_1 y113 (y113.length : Int) x35_2 = some r) ∧ Aside0 (kq ≤ k1) ∧ Aside0 (Kd.R (Kd.int .i64) 3 w' w.heap.size (fun k_ => some k_ ≠ ((.slice Ao15 y113.length co15) : Value).ownBlock) v7 x7_2) ∧ Aside0 (Kd.R (Kd.int .i64) 3 w' w.heap.size (fun k_ => some k_ ≠ (v7 : Value).ownBlock) (.slice Ao15 y113.length co15) y113) ∧ Aside0 (Below w.heap.size w w'))
    case atStart => exact ⟨(x7_1), (0), qc_, H', ⟨nA_ _⟩, ⟨(rw_ (Kd.R_mono HO_7.out (fun _ hk => hk.2)))⟩, ⟨(rw_ (Kd.R_mono HO115.out (fun _ hk => hk.2)))⟩, ⟨hB_⟩⟩
    case round =>
     clear H'
     obtain ⟨x7_2, x35_2, rfl, HA, HK2, HO_7, HO_33, HB⟩ := hrel
     cases gk with
     | zero => exact absurd HA.out (by simp [Z40.l1])
     | succ k2 =>
      have H := HA.out
      clear HA
      simp only [Z40.l1] at H
      by_cases c16 : x35_2 < (y113.length : Int)
      ·rw [if_pos c16] at H
       have c16b0 := oC_ c16
       clear c16
       have c17 := cp_ H
       replace H := ca_ H
       have c17b0 := oC_ c17
       clear c17
       have c18 := cp_ H
       replace H := ca_ H
       have c18b0 := oC_ c18
       clear c18
       obtain ⟨t117, A19, H⟩ := bi_ H
       by_cases c20 : t117 = true
       ·subst c20
        rw [if_pos rfl] at H
        have H' := A_ H
        clear H
        have p116 : 0 ≤ (x35_2 : Int) := oB_ qe_
        have q116 : x35_2 < (y113.length : Int) := oB_ qe_
        obtain ⟨ad116, e116, hx116_0⟩ := Kd.at_int (Kd.R_reads' HO_33.out).2.2 x35_2 p116 q116
        cases e116
        replace p116 := eq_true p116
        replace q116 := eq_true q116
        obtain ⟨Ao21, co21, eo21⟩ := Kd.R_slice HO_7.out
        subst eo21
        go_wp2_with (first | ((with_reducible refine gA_ (f := 163) rfl ?_); refine gL_ (some 41) Try.func163 #[.slice Ao21 x7_2.length co21, .int .i64 (rd y113 x35_2)] rfl qa_ ?_; (with_reducible refine (Z52.calls k2 _ _ x7_2 (rd y113 x35_2) true _ (cr_ HO_7) ((Kd.R_reads' HO_7.out).2.1) A19.out).mono ?_); rintro e w' ⟨rfl, ⟨nd, rfl⟩⟩; refine ⟨_, rfl, ?_⟩))
        go_roundg k2
        case measure => have := HK1.out; have := HK2.out; omega
        case rel => exact ⟨(x7_2), (wrap64 (x35_2 + 1)), qc_, H', ⟨by have := HK1.out; have := HK2.out; omega⟩, ⟨(rr_ HO_7)⟩, ⟨(rr_ HO_33)⟩, ⟨hB_⟩⟩
       ·replace c20 := Bool.eq_false_iff.mpr c20
        subst c20
        have H1 : (if x7_2.length < 17592186044416 then (Z40.l1 k2 l0 l1 (x7_2 ++ [rd y113 x35_2]) x8_1 y113 (y113.length : Int) (wrap64 (x35_2 + 1))) else (none)) = some r := by rw [if_neg (show ¬ (false = true) by decide)] at H; exact H
        clear H
        have H := H1
        clear H1
        have c22 := cp_ H
        replace H := ca_ H
        have LMc22 := A_ c22
        clear c22
        obtain ⟨y118, hy118⟩ : ∃ y_ : List Int, y_ = (x7_2 ++ [rd y113 x35_2]) := ⟨_, rfl⟩
        replace H : (Z40.l1 k2 l0 l1 y118 x8_1 y113 (y113.length : Int) (wrap64 (x35_2 + 1))) = some r := by first | (rw [hy118]; exact H) | exact H
        have Ny118 := A_ hy118
        clear hy118
        have H' := A_ H
        clear H
        have p116 : 0 ≤ (x35_2 : Int) := oB_ qe_
        have q116 : x35_2 < (y113.length : Int) := oB_ qe_
        obtain ⟨ad116, e116, hx116_0⟩ := Kd.at_int (Kd.R_reads' HO_33.out).2.2 x35_2 p116 q116
        cases e116
        replace p116 := eq_true p116
        replace q116 := eq_true q116
        obtain ⟨Ao23, co23, eo23⟩ := Kd.R_slice HO_7.out
        subst eo23
        go_wp2_with (first | ((with_reducible refine gA_ (f := 163) rfl ?_); refine gL_ (some 41) Try.func163 #[.slice Ao23 x7_2.length co23, .int .i64 (rd y113 x35_2)] rfl qa_ ?_; (with_reducible refine (Z52.calls k2 _ _ x7_2 (rd y113 x35_2) false _ (cr_ HO_7) ((Kd.R_reads' HO_7.out).2.1) A19.out).mono ?_); rintro e w' ⟨rfl, ⟨nd, rfl⟩⟩; refine ⟨_, rfl, ?_⟩) | ((with_reducible refine gate_builtin (b := .append) (xs := #[.tmp 43, .tmp 45]) rfl ?_); at_builtin; refine Kd.R_append (Kd.int .i64) (w0 := w) w.heap.size rfl (.tmp 43) (.tmp 45) 23 3 (.int .i64 0) 8 rfl Try.underlying23 info3 rfl (by decide) (by omega) (.slice Ao23 x7_2.length co23) x7_2 (rd y113 x35_2) [.int .i64 (rd y113 x35_2)] (fun k_ => some k_ ≠ (.slice (some ad116) y113.length co15 : Value).ownBlock) (fun _ => False) rfl rfl ?aP (fun _ hk => hk.elim) ?aF ?aO ?aB ?aS ?aL ?_; (case aP => exact rfl); (case aB => exact hB_); (case aF => exact (fun k_ hk => Kd.fresh' (Kd.R_lt (rr_ HO_33)) k_ hk)); (case aO => exact (rr_ HO_7)); (case aS => exact (bF_ hB_)); (case aL => have := LMc22.out; omega); intro v119 w24 ho hb hg hat; rw [← Ny118.out] at ho; replace HO_33 := A_ (Kd.R_after (ok := (fun _ => True)) (rw_ (Kd.R_mono HO_33.out (fun _ hk => ⟨trivial, hk⟩))) hg hat); replace HB := A_ hb; have HO120 := A_ ho; clear HO_7; clear ho hb hg hat))
        go_roundg k2
        case measure => have := HK1.out; have := HK2.out; omega
        case rel => exact ⟨(y118), (wrap64 (x35_2 + 1)), qc_, H', ⟨by have := HK1.out; have := HK2.out; omega⟩, ⟨(rr_ HO120)⟩, ⟨(rw_ (Kd.R_mono HO_33.out (fun _ hk => hk.2)))⟩, ⟨hB_⟩⟩
      ·rw [if_neg c16] at H
       have c16b0 := oD_ c16
       clear c16
       have H' := A_ H
       clear H
       go_wp2
       go_roundg k2
       case measure => have := HK1.out; have := HK2.out; omega
       case rel => exact ⟨(x7_2), (wrap64 (x8_1 + 1)), qc_, H', ⟨by have := HK1.out; have := HK2.out; omega⟩, ⟨(rw_ (Kd.R_mono HO_7.out (fun _ hk => trivial)))⟩, ⟨hB_⟩⟩
   ·rw [if_neg c6] at H
    have c6b0 := oD_ c6
    clear c6
    obtain rfl := Option.some.inj H
    obtain ⟨Ao25, co25, eo25⟩ := Kd.R_slice HO_7.out
    subst eo25
    go_wp2
    go_ret
    exact ⟨_, qb_, (rr_ HO_7), hB_⟩
end Go.Proofs.Ytcggfjpnfodbaaa.A
end
section
namespace Go.Proofs.Ytcggfjpnfodbaaa.A
open Go.RowKit Go.Proofs.YtcggfjpnfodbaaaW.PrintWords Go.Proofs.YtcggfjpnfodbaaaW.PrintLast Go.Proofs.YtcggfjpnfodbaaaW.PrintMore
attribute [local go_sem] max2_int min2_int max_two min_two max_three min_three max_four min_four
set_option linter.unusedVariables false
set_option linter.unusedSimpArgs false
def Z16.f (k : Nat) (l0 : List Int) (l1 : List Int) : Option (Bool) := (Z50.f k l0).bind fun t121 => (if t121 = true then ((Z50.f k l1).bind fun t122 => (if t122 = true then (if (l0.length : Int) = (l1.length : Int) then (if (l0.length : Int) > 0 then ((Z40.f k l0 l1 0).bind fun t123 => (some ((t123.length : Int) == (l0.length : Int)))) else (some false)) else (some false)) else (some false))) else (some false))
theorem Z16.mono : ∀ a0 a1 k, LeO (Z16.f k a0 a1) (Z16.f (k + 1) a0 a1) := by
 intro a0 a1 k
 unfold Z16.f
 repeat' first|exact Z50.mono _ _|exact Z40.mono _ _ _ _|exact lo_|refine LeO.ite ?_ ?_|refine LeO.bind ?_ (fun _ => ?_)
set_option maxHeartbeats 8000000 in
set_option maxRecDepth 100000 in
theorem Z16.calls (k : Nat) (A0 : Option Addr) (c0 : Nat) (l0 : List Int) (A1 : Option Addr) (c1 : Nat) (l1 : List Int) (r : Bool) (w : World) (hr0 : Kd.C (Kd.int .i64) w A0 l0.length l0) (hc0 : l0.length ≤ c0) (hr1 : Kd.C (Kd.int .i64) w A1 l1.length l1) (hc1 : l1.length ≤ c1) (h : Z16.f k l0 l1 = some r) :
  Calls Try.prog 117 #[.slice A0 l0.length c0, .slice A1 l1.length c1] w fun e w' => e = .returned (.bool r) ∧ Below w.heap.size w w' := by
 have HR0 := A_ hr0
 have HC0 := A_ hc0
 clear hr0 hc0
 have HR1 := A_ hr1
 have HC1 := A_ hc1
 clear hr1 hc1
 have HB := A_ (Below.refl w.heap.size w)
 have H := h
 unfold Z16.f at H
 clear h
 obtain ⟨t121, A3, H⟩ := bi_ H
 by_cases c4 : t121 = true
 ·subst c4
  rw [if_pos rfl] at H
  obtain ⟨t122, A5, H⟩ := bi_ H
  by_cases c6 : t122 = true
  ·subst c6
   rw [if_pos rfl] at H
   by_cases c7 : (l0.length : Int) = (l1.length : Int)
   ·rw [if_pos c7] at H
    have c7b0 : ((l0.length : Int) == (l1.length : Int)) = true := beq_iff_eq.mpr c7
    have c7b1 : ((l0.length : Int) != (l1.length : Int)) = false := bne_eq_false_iff_eq.mpr c7
    have c7b2 : (l0.length == l1.length) = true := by first | simpa using c7 | (simp at c7 ⊢; omega)
    clear c7
    by_cases c8 : (l0.length : Int) > 0
    ·rw [if_pos c8] at H
     have c8b0 : decide (0 < (l0.length : Int)) = true := oC_ c8
     have c8b1 : decide (0 < l0.length) = true := oC_ (by omega)
     clear c8
     obtain ⟨t123, A9, H⟩ := bi_ H
     obtain rfl := Option.some.inj H
     go_enter Try.func117, Try.ntmps117
     go_wp2_with (first | ((with_reducible refine gA_ (f := 146) rfl ?_); refine gL_ (some 6) Try.func146 #[.slice A0 l0.length c0] rfl qa_ ?_; (with_reducible refine (Z50.calls k _ _ l0 true _ (cc_ HR0) HC0.out A3.out).mono ?_); rintro e w' ⟨rfl, ⟨nd, rfl⟩⟩; refine ⟨_, rfl, ?_⟩) | (go_at_call 146; (with_reducible refine (Z50.calls k _ _ l1 true _ (cc_ HR1) HC1.out A5.out).mono ?_); rintro e w' ⟨rfl, ⟨nd, rfl⟩⟩) | (go_at_call 147; (with_reducible refine (Z40.calls k _ _ l0 _ _ l1 0 t123 _ (cc_ HR0) HC0.out (cc_ HR1) HC1.out A9.out).mono ?_); rintro e w10 ⟨v124, rfl, ho0, hb⟩; have HO125 := rl_ w ho0; replace HB := b1_ hb; clear hb ho0; obtain ⟨Ao11, co11, eo11⟩ := Kd.R_slice HO125.out; subst eo11))
     go_ret
     exact ⟨qb_, hB_⟩
    ·rw [if_neg c8] at H
     have c8b0 : decide (0 < (l0.length : Int)) = false := oD_ c8
     have c8b1 : decide (0 < l0.length) = false := oD_ (by omega)
     clear c8
     obtain rfl := Option.some.inj H
     go_enter Try.func117, Try.ntmps117
     go_wp2_with (first | ((with_reducible refine gA_ (f := 146) rfl ?_); refine gL_ (some 6) Try.func146 #[.slice A0 l0.length c0] rfl qa_ ?_; (with_reducible refine (Z50.calls k _ _ l0 true _ (cc_ HR0) HC0.out A3.out).mono ?_); rintro e w' ⟨rfl, ⟨nd, rfl⟩⟩; refine ⟨_, rfl, ?_⟩) | (go_at_call 146; (with_reducible refine (Z50.calls k _ _ l1 true _ (cc_ HR1) HC1.out A5.out).mono ?_); rintro e w' ⟨rfl, ⟨nd, rfl⟩⟩))
     go_ret
     exact ⟨qb_, hB_⟩
   ·rw [if_neg c7] at H
    have c7b0 : ((l0.length : Int) == (l1.length : Int)) = false := beq_eq_false_iff_ne.mpr c7
    have c7b1 : ((l0.length : Int) != (l1.length : Int)) = true := bne_iff_ne.mpr c7
    have c7b2 : (l0.length == l1.length) = false := by first | simpa using c7 | (simp at c7 ⊢; omega)
    obtain rfl := Option.some.inj H
    go_enter Try.func117, Try.ntmps117
    go_wp2_with (first | ((with_reducible refine gA_ (f := 146) rfl ?_); refine gL_ (some 6) Try.func146 #[.slice A0 l0.length c0] rfl qa_ ?_; (with_reducible refine (Z50.calls k _ _ l0 true _ (cc_ HR0) HC0.out A3.out).mono ?_); rintro e w' ⟨rfl, ⟨nd, rfl⟩⟩; refine ⟨_, rfl, ?_⟩) | (go_at_call 146; (with_reducible refine (Z50.calls k _ _ l1 true _ (cc_ HR1) HC1.out A5.out).mono ?_); rintro e w' ⟨rfl, ⟨nd, rfl⟩⟩))
    go_ret
    exact ⟨qb_, hB_⟩
  ·replace c6 := Bool.eq_false_iff.mpr c6
   subst c6
   have H1 : (some false) = some r := by rw [if_neg (show ¬ (false = true) by decide)] at H; exact H
   clear H
   have H := H1
   clear H1
   obtain rfl := Option.some.inj H
   go_enter Try.func117, Try.ntmps117
   go_wp2_with (first | ((with_reducible refine gA_ (f := 146) rfl ?_); refine gL_ (some 6) Try.func146 #[.slice A0 l0.length c0] rfl qa_ ?_; (with_reducible refine (Z50.calls k _ _ l0 true _ (cc_ HR0) HC0.out A3.out).mono ?_); rintro e w' ⟨rfl, ⟨nd, rfl⟩⟩; refine ⟨_, rfl, ?_⟩) | (go_at_call 146; (with_reducible refine (Z50.calls k _ _ l1 false _ (cc_ HR1) HC1.out A5.out).mono ?_); rintro e w' ⟨rfl, ⟨nd, rfl⟩⟩))
   go_ret
   exact ⟨qb_, hB_⟩
 ·replace c4 := Bool.eq_false_iff.mpr c4
  subst c4
  have H1 : (some false) = some r := by rw [if_neg (show ¬ (false = true) by decide)] at H; exact H
  clear H
  have H := H1
  clear H1
  obtain rfl := Option.some.inj H
  go_enter Try.func117, Try.ntmps117
  go_wp2_with (first | ((with_reducible refine gA_ (f := 146) rfl ?_); refine gL_ (some 6) Try.func146 #[.slice A0 l0.length c0] rfl qa_ ?_; (with_reducible refine (Z50.calls k _ _ l0 false _ (cc_ HR0) HC0.out A3.out).mono ?_); rintro e w' ⟨rfl, ⟨nd, rfl⟩⟩; refine ⟨_, rfl, ?_⟩))
  go_ret
  exact ⟨qb_, hB_⟩
def Z31.f (k : Nat) (l0_0 : List Int) (l0_1 : List Int) : Option (Bool) := (Z16.f k l0_0 l0_1).bind fun t127 => (some t127)
theorem Z31.mono : ∀ a0 a1 k, LeO (Z31.f k a0 a1) (Z31.f (k + 1) a0 a1) := by
 intro a0 a1 k
 unfold Z31.f
 repeat' first|exact Z16.mono _ _ _|exact lo_|refine LeO.ite ?_ ?_|refine LeO.bind ?_ (fun _ => ?_)
set_option maxHeartbeats 8000000 in
set_option maxRecDepth 100000 in
theorem Z31.calls (k : Nat) (A0_0 : Option Addr) (c0_0 : Nat) (l0_0 : List Int) (A0_1 : Option Addr) (c0_1 : Nat) (l0_1 : List Int) (r : Bool) (w : World) (hr0_0 : Kd.C (Kd.int .i64) w A0_0 l0_0.length l0_0) (hc0_0 : l0_0.length ≤ c0_0) (hr0_1 : Kd.C (Kd.int .i64) w A0_1 l0_1.length l0_1) (hc0_1 : l0_1.length ≤ c0_1) (h : Z31.f k l0_0 l0_1 = some r) :
  Calls Try.prog 80 #[.agg #[.slice A0_0 l0_0.length c0_0, .slice A0_1 l0_1.length c0_1]] w fun e w' => e = .returned (.bool r) ∧ Below w.heap.size w w' := by
 have hu25 := Try.underlying25
 have HR0_0 := A_ hr0_0
 have HC0_0 := A_ hc0_0
 clear hr0_0 hc0_0
 have HR0_1 := A_ hr0_1
 have HC0_1 := A_ hc0_1
 clear hr0_1 hc0_1
 have HB := A_ (Below.refl w.heap.size w)
 have H := h
 unfold Z31.f at H
 clear h
 obtain ⟨t127, A2, H⟩ := bi_ H
 obtain rfl := Option.some.inj H
 go_enter Try.func80, Try.ntmps80
 go_wp2_with (first | ((with_reducible refine gB_ (N := 1) rfl ?_); refine bx_ 1 #[.slice A0_0 l0_0.length c0_0, .slice A0_1 l0_1.length c0_1] 25 ?_; intro gb126 hg w3 hbox hb; have BK126 := A_ hbox; have GW126 := gw_ w hg; have GE126 := GW126; replace HB := b1_ hb; clear hb hbox hg; obtain ⟨hcz4_0, hcz4_1, hfz4_0, hfz4_1⟩ := c2_ BK126) | ((with_reducible refine gA_ (f := 117) rfl ?_); refine gL_ (some 7) Try.func117 #[.slice A0_0 l0_0.length c0_0, .slice A0_1 l0_1.length c0_1] rfl qa_ ?_; (with_reducible refine (Z16.calls k _ _ l0_0 _ _ l0_1 t127 _ (cb_ HR0_0) HC0_0.out (cb_ HR0_1) HC0_1.out A2.out).mono ?_); rintro e w5 ⟨rfl, hb⟩; refine ⟨_, rfl, ?_⟩; replace BK126 := bb_ BK126 hb; replace HB := b1_ hb; clear hb))
 go_ret
 exact ⟨qb_, hB_⟩
def Z39.f (s0_0 : List Int) (s0_1 : Int) (s0_2 : Int) (a1 : Int) : Option (Int × Int × Int) := if a1 ≤ 0 then (some (0, s0_1, s0_2)) else (if a1 ≤ 256 then ((Z46.f s0_0 s0_1 s0_2).bind fun bt129 => (if a1 = 0 then (none) else (some (Int.tmod bt129.1 a1, bt129.2.1, bt129.2.2)))) else ((Z46.f s0_0 s0_1 s0_2).bind fun bt132 => ((Z46.f s0_0 bt132.2.1 bt132.2.2).bind fun bt135 => ((Z46.f s0_0 bt135.2.1 bt135.2.2).bind fun bt138 => ((Z46.f s0_0 bt138.2.1 bt138.2.2).bind fun bt141 => (if a1 = 0 then (none) else (some (Int.tmod (wrap64 ((wrap64 ((wrap64 ((wrap64 (bt132.1 * 16777216)) + (wrap64 (bt135.1 * 65536)))) + (wrap64 (bt138.1 * 256)))) + bt141.1)) a1, bt141.2.1, bt141.2.2))))))))
set_option maxHeartbeats 8000000 in
set_option maxRecDepth 100000 in
theorem Z39.calls (g : Nat) (s0_0 : List Int) (s0_1 : Int) (s0_2 : Int) (a1 : Int) (r1 : Int) (r2 : Int) (r3 : Int) (w0 w : World) (hI : IsS99 w0 w g s0_0 s0_1 s0_2) (hB : Below w0.heap.size w0 w) (h : Z39.f s0_0 s0_1 s0_2 a1 = some (r1, r2, r3)) :
  Calls Try.prog 94 #[.pointer (some ⟨g, 0, none⟩), .int .i64 a1] w fun e w' => e = .returned (.int .i64 r1) ∧ IsS99 w0 w' g s0_0 r2 r3 ∧ Below w0.heap.size w0 w' ∧ KeepBut w w' g none := by
 have HI0 := A_ hI
 have HK := A_ (KeepBut.refl w g none)
 have HL := A_ hB.size
 clear hI
 have HW0 := A_ hB.size
 have HB := A_ hB
 clear hB
 have H := h
 unfold Z39.f at H
 clear h
 by_cases c3 : a1 ≤ 0
 ·rw [if_pos c3] at H
  have c3b0 := oC_ c3
  clear c3
  simp only [Option.some.injEq, Prod.mk.injEq] at H
  obtain ⟨rfl, rfl, rfl⟩ := H
  go_enter Try.func94, Try.ntmps94
  go_wp2
  go_ret
  exact ⟨qb_, hI_IsS99_HI0, hBI_, hK_⟩
 ·rw [if_neg c3] at H
  have c3b0 := oD_ c3
  clear c3
  by_cases c4 : a1 ≤ 256
  ·rw [if_pos c4] at H
   have c4b0 := oC_ c4
   clear c4
   obtain ⟨⟨t129, t130, t131⟩, A5, H⟩ := bi_ H
   try dsimp only at H
   by_cases c6 : a1 = 0
   ·rw [if_pos c6] at H
    exact absurd H (by simp)
   ·rw [if_neg c6] at H
    have c6b0 : (a1 == 0) = false := beq_eq_false_iff_ne.mpr c6
    have c6b1 : (a1 != 0) = true := bne_iff_ne.mpr c6
    simp only [Option.some.injEq, Prod.mk.injEq] at H
    obtain ⟨rfl, rfl, rfl⟩ := H
    go_enter Try.func94, Try.ntmps94
    go_wp2_with (first | ((with_reducible refine gA_ (f := 71) rfl ?_); refine gL_ (some 14) Try.func71 #[.pointer (some ⟨g, 0, none⟩)] rfl qa_ ?_; (with_reducible refine (Z46.calls g s0_0 s0_1 s0_2 t129 t130 t131 w0 _ ?side1 ?side2 A5.out).mono ?_); (case side1 => repeat (first | (with_reducible first | exact HI0.out | apply IsS99.alloc | apply IsS99.drewN | apply IsS99.drew | apply IsS99.set_1 | apply IsS99.set_2) | exact HI0.out)); (case side2 => repeat (first | (with_reducible first | exact HB.out | apply bA_ | apply bB_ | apply bC_ | refine bD_ ?_ (IsS99.ge HI0.out)) | exact HB.out)); rintro e w7 ⟨rfl, hi, hb, hk⟩; refine ⟨_, rfl, ?_⟩; replace HK := A_ (KeepBut.trans hK_ hk (.inl rfl)); replace HB := A_ hb; replace HI0 := A_ hi; clear hb hk hi))
    go_ret
    exact ⟨qb_, hI_IsS99_HI0, hBI_, hK_⟩
  ·rw [if_neg c4] at H
   have c4b0 := oD_ c4
   clear c4
   obtain ⟨⟨t132, t133, t134⟩, A8, H⟩ := bi_ H
   try dsimp only at H
   obtain ⟨⟨t135, t136, t137⟩, A9, H⟩ := bi_ H
   try dsimp only at H
   obtain ⟨⟨t138, t139, t140⟩, A10, H⟩ := bi_ H
   try dsimp only at H
   obtain ⟨⟨t141, t142, t143⟩, A11, H⟩ := bi_ H
   try dsimp only at H
   by_cases c12 : a1 = 0
   ·rw [if_pos c12] at H
    exact absurd H (by simp)
   ·rw [if_neg c12] at H
    have c12b0 : (a1 == 0) = false := beq_eq_false_iff_ne.mpr c12
    have c12b1 : (a1 != 0) = true := bne_iff_ne.mpr c12
    simp only [Option.some.injEq, Prod.mk.injEq] at H
    obtain ⟨rfl, rfl, rfl⟩ := H
    go_enter Try.func94, Try.ntmps94
    go_wp2_with (first | ((with_reducible refine gA_ (f := 71) rfl ?_); refine gL_ (some 18) Try.func71 #[.pointer (some ⟨g, 0, none⟩)] rfl qa_ ?_; (with_reducible refine (Z46.calls g s0_0 s0_1 s0_2 t132 t133 t134 w0 _ ?side1 ?side2 A8.out).mono ?_); (case side1 => repeat (first | (with_reducible first | exact HI0.out | apply IsS99.alloc | apply IsS99.drewN | apply IsS99.drew | apply IsS99.set_1 | apply IsS99.set_2) | exact HI0.out)); (case side2 => repeat (first | (with_reducible first | exact HB.out | apply bA_ | apply bB_ | apply bC_ | refine bD_ ?_ (IsS99.ge HI0.out)) | exact HB.out)); rintro e w13 ⟨rfl, hi, hb, hk⟩; refine ⟨_, rfl, ?_⟩; replace HK := A_ (KeepBut.trans hK_ hk (.inl rfl)); replace HB := A_ hb; replace HI0 := A_ hi; clear hb hk hi) | ((with_reducible refine gA_ (f := 71) rfl ?_); refine gL_ (some 20) Try.func71 #[.pointer (some ⟨g, 0, none⟩)] rfl qa_ ?_; (with_reducible refine (Z46.calls g s0_0 t133 t134 t135 t136 t137 w0 _ ?side1 ?side2 A9.out).mono ?_); (case side1 => repeat (first | (with_reducible first | exact HI0.out | apply IsS99.alloc | apply IsS99.drewN | apply IsS99.drew | apply IsS99.set_1 | apply IsS99.set_2) | exact HI0.out)); (case side2 => repeat (first | (with_reducible first | exact HB.out | apply bA_ | apply bB_ | apply bC_ | refine bD_ ?_ (IsS99.ge HI0.out)) | exact HB.out)); rintro e w14 ⟨rfl, hi, hb, hk⟩; refine ⟨_, rfl, ?_⟩; replace HK := A_ (KeepBut.trans hK_ hk (.inl rfl)); replace HB := A_ hb; replace HI0 := A_ hi; clear hb hk hi) | ((with_reducible refine gA_ (f := 71) rfl ?_); refine gL_ (some 22) Try.func71 #[.pointer (some ⟨g, 0, none⟩)] rfl qa_ ?_; (with_reducible refine (Z46.calls g s0_0 t136 t137 t138 t139 t140 w0 _ ?side1 ?side2 A10.out).mono ?_); (case side1 => repeat (first | (with_reducible first | exact HI0.out | apply IsS99.alloc | apply IsS99.drewN | apply IsS99.drew | apply IsS99.set_1 | apply IsS99.set_2) | exact HI0.out)); (case side2 => repeat (first | (with_reducible first | exact HB.out | apply bA_ | apply bB_ | apply bC_ | refine bD_ ?_ (IsS99.ge HI0.out)) | exact HB.out)); rintro e w15 ⟨rfl, hi, hb, hk⟩; refine ⟨_, rfl, ?_⟩; replace HK := A_ (KeepBut.trans hK_ hk (.inl rfl)); replace HB := A_ hb; replace HI0 := A_ hi; clear hb hk hi) | ((with_reducible refine gA_ (f := 71) rfl ?_); refine gL_ (some 24) Try.func71 #[.pointer (some ⟨g, 0, none⟩)] rfl qa_ ?_; (with_reducible refine (Z46.calls g s0_0 t139 t140 t141 t142 t143 w0 _ ?side1 ?side2 A11.out).mono ?_); (case side1 => repeat (first | (with_reducible first | exact HI0.out | apply IsS99.alloc | apply IsS99.drewN | apply IsS99.drew | apply IsS99.set_1 | apply IsS99.set_2) | exact HI0.out)); (case side2 => repeat (first | (with_reducible first | exact HB.out | apply bA_ | apply bB_ | apply bC_ | refine bD_ ?_ (IsS99.ge HI0.out)) | exact HB.out)); rintro e w16 ⟨rfl, hi, hb, hk⟩; refine ⟨_, rfl, ?_⟩; replace HK := A_ (KeepBut.trans hK_ hk (.inl rfl)); replace HB := A_ hb; replace HI0 := A_ hi; clear hb hk hi))
    go_ret
    exact ⟨qb_, hI_IsS99_HI0, hBI_, hK_⟩
def Z47.l0 : Nat → Int → List Int → Int → List Int → Int → Int → Option (List Int × Int × Int)
 | 0, _, _, _, _, _, _ => none
 | k + 1, x1, x5, x6, x1000, x1001, x1002 => if x6 < x1 then ((Z39.f x1000 x1001 x1002 (wrap64 (x6 + 1))).bind fun bt147 => (if x5.length < 17592186044416 then ((some (x5 ++ [x6] : List Int)).bind fun y150 => (if 0 ≤ bt147.1 then (if bt147.1 < (y150.length : Int) then (if 0 ≤ x6 then (if x6 < (y150.length : Int) then (Z47.l0 k x1 ((y150.set (x6 : Int).toNat (rd y150 bt147.1)).set (bt147.1 : Int).toNat x6) (wrap64 (x6 + 1)) x1000 bt147.2.1 bt147.2.2) else (none)) else (none)) else (none)) else (none))) else (none))) else (some (x5, x1001, x1002))
def Z47.f (k : Nat) (s0_0 : List Int) (s0_1 : Int) (s0_2 : Int) (a1 : Int) : Option (List Int × Int × Int) := Z47.l0 k a1 (([] : List Int)) 0 s0_0 s0_1 s0_2
theorem Z47.mono_l : ∀ k, (∀ y0 y1 y2 y3 y4 y5, LeO (Z47.l0 k y0 y1 y2 y3 y4 y5) (Z47.l0 (k + 1) y0 y1 y2 y3 y4 y5))
 | 0 => fun _ _ _ _ _ _ r h => by simp [Z47.l0] at h
 | k + 1 => by
  have ih0 := Z47.mono_l k
  ·intro y0 y1 y2 y3 y4 y5
   unfold Z47.l0
   repeat' first|exact ih0 _ _ _ _ _ _|exact lo_|refine LeO.ite ?_ ?_|refine LeO.bind ?_ (fun _ => ?_)
theorem Z47.mono : ∀ a0 a1 a2 a3 k, LeO (Z47.f k a0 a1 a2 a3) (Z47.f (k + 1) a0 a1 a2 a3) := by
 intro a0 a1 a2 a3 k
 have ih0 := Z47.mono_l k
 unfold Z47.f
 repeat' first|exact ih0 _ _ _ _ _ _|exact lo_|refine LeO.ite ?_ ?_|refine LeO.bind ?_ (fun _ => ?_)
set_option maxHeartbeats 8000000 in
set_option maxRecDepth 100000 in
theorem Z47.calls (k : Nat) (g : Nat) (s0_0 : List Int) (s0_1 : Int) (s0_2 : Int) (a1 : Int) (r1 : List Int) (r2 : Int) (r3 : Int) (w0 w : World) (hI : IsS99 w0 w g s0_0 s0_1 s0_2) (hB : Below w0.heap.size w0 w) (h : Z47.f k s0_0 s0_1 s0_2 a1 = some (r1, r2, r3)) :
  Calls Try.prog 95 #[.pointer (some ⟨g, 0, none⟩), .int .i64 a1] w fun e w' => ∃ v0_ : Value, e = .returned (v0_) ∧ Kd.R (Kd.int .i64) 3 w' w.heap.size (fun _ => True) v0_ r1 ∧ IsS99 w0 w' g s0_0 r2 r3 ∧ Below w0.heap.size w0 w' ∧ KeepBut w w' g none := by
 have HI0 := A_ hI
 have HK := A_ (KeepBut.refl w g none)
 have HL := A_ hB.size
 clear hI
 have HW0 := A_ hB.size
 have HB := A_ hB
 clear hB
 have H := h
 unfold Z47.f at H
 clear h
 obtain ⟨y144, hy144⟩ : ∃ y_ : List Int, y_ = (([] : List Int)) := ⟨_, rfl⟩
 replace H : (Z47.l0 k a1 y144 0 s0_0 s0_1 s0_2) = some (r1, r2, r3) := by first | (rw [hy144]; exact H) | exact H
 have Ny144 := A_ hy144
 clear hy144
 have H' := A_ H
 clear H
 go_enter Try.func95, Try.ntmps95
 go_wp2_with (first | ((with_reducible refine gB_ (N := 8) rfl ?_); refine Kd.R_lit (Kd.int .i64) _ 3 ?hg (N := 8) ?hd (xs := ([] : List Int)) (inner := []) (ok := fun _ => True) (okp := fun _ => True) ?hr ?hp (fun _ hk => hk) trivial (Below.refl _ _) (nA_ _) (by simp) ?_; (case hd => rfl); (case hg => rfl); (case hr => first | (go_simp; done) | (go_simp; rfl)); (case hp => exact (Reps.none _ _)); intro v145 w3 ho4 hb hg_ hnew_; clear hg_ hnew_; (first | rw [← Ny144.out] at ho4 | (simp only [Int.reduceToNat] at ho4; rw [← Ny144.out] at ho4)); have HO146 := A_ (rE_ ho4 (keep_size (w := w) (g := g) (row := none) hK_)); replace HK := A_ (KeepBut.trans hK_ (KeepBut.of_below hb g none) (.inl rfl)); replace HB := b2_ hb; replace HI0 := A_ (IsS99.below hI_IsS99_HI0 hb); clear hb ho4))
 go_loopg [5, 6] k (fun kq v5 v6 w' => ∃ (x5_1 : List Int) (x6_1 : Int) (x1001_1 : Int) (x1002_1 : Int), v6 = .int .i64 x6_1 ∧ Aside0 (Z47.l0 kq a1 x5_1 x6_1 s0_0 x1001_1 x1002_1 = some (r1, r2, r3)) ∧ Aside0 (kq ≤ k) ∧ Aside0 (Kd.R (Kd.int .i64) 3 w' w.heap.size (fun _ => True) v5 x5_1) ∧ Aside0 (IsS99 w0 w' g s0_0 x1001_1 x1002_1) ∧ Aside0 (KeepBut w w' g none) ∧ Aside0 (Below w0.heap.size w0 w'))
 case atStart => exact ⟨(y144), (0), (s0_1), (s0_2), qc_, H', ⟨nA_ _⟩, ⟨(rr_ HO146)⟩, ⟨hI_IsS99_HI0⟩, ⟨hK_⟩, ⟨hBI_⟩⟩
 case round =>
  clear H'
  obtain ⟨x5_1, x6_1, x1001_1, x1002_1, rfl, HA, HK1, HO_5, HI0, HK, HB⟩ := hrel
  cases gk with
  | zero => exact absurd HA.out (by simp [Z47.l0])
  | succ k1 =>
   have H := HA.out
   clear HA
   simp only [Z47.l0] at H
   by_cases c5 : x6_1 < a1
   ·rw [if_pos c5] at H
    have c5b0 := oC_ c5
    clear c5
    obtain ⟨⟨t147, t148, t149⟩, A6, H⟩ := bi_ H
    try dsimp only at H
    have c7 := cp_ H
    replace H := ca_ H
    have LMc7 := A_ c7
    clear c7
    obtain ⟨y150, hy150⟩ : ∃ y_ : List Int, y_ = (x5_1 ++ [x6_1]) := ⟨_, rfl⟩
    replace H : (if 0 ≤ t147 then (if t147 < (y150.length : Int) then (if 0 ≤ x6_1 then (if x6_1 < (y150.length : Int) then (Z47.l0 k1 a1 ((y150.set (x6_1 : Int).toNat (rd y150 t147)).set (t147 : Int).toNat x6_1) (wrap64 (x6_1 + 1)) s0_0 t148 t149) else (none)) else (none)) else (none)) else (none)) = some (r1, r2, r3) := by first | (rw [hy150]; exact H) | exact H
    have Ny150 := A_ hy150
    clear hy150
    have c8 := cp_ H
    replace H := ca_ H
    have c8b0 := oC_ c8
    clear c8
    have c9 := cp_ H
    replace H := ca_ H
    have c9b0 := oC_ c9
    clear c9
    have c10 := cp_ H
    replace H := ca_ H
    have c10b0 := oC_ c10
    clear c10
    have c11 := cp_ H
    replace H := ca_ H
    have c11b0 := oC_ c11
    clear c11
    obtain ⟨y154, hy154⟩ : ∃ y_ : List Int, y_ = (y150.set (x6_1 : Int).toNat (rd y150 t147)) := ⟨_, rfl⟩
    replace H : (Z47.l0 k1 a1 (y154.set (t147 : Int).toNat x6_1) (wrap64 (x6_1 + 1)) s0_0 t148 t149) = some (r1, r2, r3) := by first | (rw [hy154]; exact H) | exact H
    have Ny154 := A_ hy154
    clear hy154
    obtain ⟨y155, hy155⟩ : ∃ y_ : List Int, y_ = (y154.set (t147 : Int).toNat x6_1) := ⟨_, rfl⟩
    replace H : (Z47.l0 k1 a1 y155 (wrap64 (x6_1 + 1)) s0_0 t148 t149) = some (r1, r2, r3) := by first | (rw [hy155]; exact H) | exact H
    have Ny155 := A_ hy155
    clear hy155
    have H' := A_ H
    clear H
    go_wp2_with (first | ((with_reducible refine gA_ (f := 94) rfl ?_); refine gL_ (some 17) Try.func94 #[.pointer (some ⟨g, 0, none⟩), .int .i64 (wrap64 (x6_1 + 1))] rfl qa_ ?_; (with_reducible refine (Z39.calls g s0_0 x1001_1 x1002_1 (wrap64 (x6_1 + 1)) t147 t148 t149 w0 _ ?side1 ?side2 A6.out).mono ?_); (case side1 => repeat (first | (with_reducible first | exact HI0.out | apply IsS99.alloc | apply IsS99.drewN | apply IsS99.drew | apply IsS99.set_1 | apply IsS99.set_2) | exact HI0.out)); (case side2 => repeat (first | (with_reducible first | exact HB.out | apply bA_ | apply bB_ | apply bC_ | refine bD_ ?_ (IsS99.ge HI0.out)) | exact HB.out)); rintro e w14 ⟨rfl, hi, hb, hk⟩; refine ⟨_, rfl, ?_⟩; replace HO_5 := A_ (Kd.R_mono (Kd.R_keep (IsS99.apart (show IsS99 w0 _ g s0_0 x1001_1 x1002_1 from hI_IsS99_HI0) (rr_ HO_5) (by decide)) hk (fun _ h => h.2)) (fun _ h => h.1)); replace HK := A_ (KeepBut.trans hK_ hk (.inl rfl)); replace HB := A_ hb; replace HI0 := A_ hi; clear hb hk hi) | ((with_reducible refine gate_builtin (b := .append) (xs := #[.tmp 18, .tmp 20]) rfl ?_); at_builtin; refine Kd.R_append (Kd.int .i64) w.heap.size rfl (.tmp 18) (.tmp 20) 23 3 (.int .i64 0) 8 rfl Try.underlying23 info3 rfl (by decide) (by omega) u5 x5_1 x6_1 [.int .i64 x6_1] (fun _ => True) (fun _ => False) rfl rfl ?aP (fun _ hk => hk.elim) ?aF ?aO (Below.refl _ _) ?aS ?aL ?_; (case aP => exact rfl); (case aF => exact (fun _ _ => trivial)); (case aO => exact (rr_ HO_5)); (case aS => exact (keep_size (w := w) (g := g) (row := none) hK_)); (case aL => have := LMc7.out; omega); intro v151 w15 ho hb hg hat; rw [← Ny150.out] at ho; replace HB := A_ (below_weaken hBI_ HL.out hb); replace HI0 := A_ (IsS99.grown hI_IsS99_HI0 hg (IsS99.own_ne HI0.out HO_5.out (by decide))); replace HK := A_ (KeepBut.trans hK_ (KeepBut.of_grown hg g) (Kd.R_base2 HO_5.out)); have HO152 := A_ ho; clear HO_5; clear ho hb hg hat; obtain ⟨Ao16, co16, eo16⟩ := Kd.R_slice HO152.out; subst eo16; have p153 : 0 ≤ (t147 : Int) := oB_ qe_; have q153 : t147 < (y150.length : Int) := oB_ qe_; obtain ⟨ad153, e153, hx153_0⟩ := Kd.at_int (Kd.R_reads' HO152.out).2.2 t147 p153 q153; cases e153; replace p153 := eq_true p153; replace q153 := eq_true q153; have p12 : 0 ≤ (x6_1 : Int) := oB_ qe_; have q12 : (x6_1 : Int) < ((y150.length : Int) : Int) := oB_ qe_; obtain ⟨go12, co12, eo12, gb12, gl12, cl12, HG12⟩ := Kd.R_form HO152.out (by omega); (first | cases eo12 | (injection eo12 with ea_ en_ ec_; (first | subst ea_ | (injection ea_ with ea_; subst ea_)); subst ec_; clear en_)); have GB12 := A_ gb12; have GG12 := A_ HG12; clear gb12 gl12 HG12; (first | simp only [add_plain] at hx153_0 | skip); obtain ⟨hx12_0, hf12_0⟩ := Kd.R_celln 0 HO152.out (x6_1 : Int) p12 q12; replace p12 := eq_true p12; replace q12 := eq_true q12; obtain ⟨hy17_, hz17_⟩ := Kd.R_celln 0 HO152.out (x6_1 : Int) (oB_ qe_) (oB_ qe_); have HP17 := Kd.R_putg HO152.out (x6_1 : Int) (rd y150 t147)) | ((with_reducible refine gate_store (t := 3) (p := 28) rfl ?_); refine store_event (t := 3) (p := 28) (v := ?vo_w18) (w1 := (w15.setCell ⟨go12, (x6_1 : Int).toNat, none⟩ (.int .i64 (rd y150 t147)))) ?hg ?ho ?hn ?hr ?_; (case ho => rfl); (case hg => rfl); (case hn => rfl); (case hr => first | (go_simp; done) | (go_simp; rfl)); intro w18 hw; have hg : w15.grownBy w18 (some go12) := (by rw [hw]; exact HP17.2); have hp_ : Kd.R (Kd.int .i64) 3 w18 w.heap.size (fun _ => True) (.slice (some ⟨go12, 0, none⟩) y150.length co16) y154 := (by rw [hw, Ny154.out]; exact HP17.1); clear HP17; replace HI0 := A_ (IsS99.grown hI_IsS99_HI0 hg (IsS99.own_ne HI0.out HO152.out (by decide))); replace HB := A_ ((by rw [hw]; exact bD_ (HB.out) (Nat.le_trans HL.out GB12.out) : Below w0.heap.size w0 w18)); replace HK := A_ (KeepBut.trans hK_ (KeepBut.of_grown hg g) (Kd.R_base2 HO152.out)); replace HO152 := A_ (hp_); clear hg hw hp_; have p13 : 0 ≤ (t147 : Int) := oB_ qe_; have q13 : (t147 : Int) < ((y150.length : Int) : Int) := oB_ qe_; obtain ⟨hx13_0, hf13_0⟩ := Kd.R_celln 0 HO152.out (t147 : Int) p13 q13; replace p13 := eq_true p13; replace q13 := eq_true q13; obtain ⟨hy19_, hz19_⟩ := Kd.R_celln 0 HO152.out (t147 : Int) (oB_ qe_) (oB_ qe_); have HP19 := Kd.R_putg HO152.out (t147 : Int) x6_1) | ((with_reducible refine gate_store (t := 3) (p := 32) rfl ?_); refine store_event (t := 3) (p := 32) (v := ?vo_w20) (w1 := (w18.setCell ⟨go12, (t147 : Int).toNat, none⟩ (.int .i64 x6_1))) ?hg ?ho ?hn ?hr ?_; (case ho => rfl); (case hg => rfl); (case hn => rfl); (case hr => first | (go_simp; done) | (go_simp; rfl)); intro w20 hw; have hg : w18.grownBy w20 (some go12) := (by rw [hw]; exact HP19.2); have hp_ : Kd.R (Kd.int .i64) 3 w20 w.heap.size (fun _ => True) (.slice (some ⟨go12, 0, none⟩) y150.length co16) y155 := (by rw [hw, Ny155.out]; exact HP19.1); clear HP19; replace HI0 := A_ (IsS99.grown hI_IsS99_HI0 hg (IsS99.own_ne HI0.out HO152.out (by decide))); replace HB := A_ ((by rw [hw]; exact bD_ (HB.out) (Nat.le_trans HL.out GB12.out) : Below w0.heap.size w0 w20)); replace HK := A_ (KeepBut.trans hK_ (KeepBut.of_grown hg g) (Kd.R_base2 HO152.out)); replace HO152 := A_ (hp_); clear hg hw hp_))
    go_roundg k1
    case measure => have := HK1.out; omega
    case rel => exact ⟨(y155), (wrap64 (x6_1 + 1)), (t148), (t149), qc_, H', ⟨by have := HK1.out; omega⟩, ⟨(rr_ HO152)⟩, ⟨hI_IsS99_HI0⟩, ⟨hK_⟩, ⟨hBI_⟩⟩
   ·rw [if_neg c5] at H
    have c5b0 := oD_ c5
    clear c5
    simp only [Option.some.injEq, Prod.mk.injEq] at H
    obtain ⟨rfl, rfl, rfl⟩ := H
    go_wp2
    go_ret
    exact ⟨_, qb_, (rr_ HO_5), hI_IsS99_HI0, hBI_, hK_⟩
def Z24.l0 : Nat → Int → List Int → Int → Option (List Int)
 | 0, _, _, _ => none
 | k + 1, x0, x3, x4 => if x4 < x0 then (if x3.length < 17592186044416 then (Z24.l0 k x0 (x3 ++ [x4]) (wrap64 (x4 + 1))) else (none)) else (some x3)
def Z24.f (k : Nat) (a0 : Int) : Option (List Int) := Z24.l0 k a0 (([] : List Int)) 0
theorem Z24.mono_l : ∀ k, (∀ y0 y1 y2, LeO (Z24.l0 k y0 y1 y2) (Z24.l0 (k + 1) y0 y1 y2))
 | 0 => fun _ _ _ r h => by simp [Z24.l0] at h
 | k + 1 => by
  have ih0 := Z24.mono_l k
  ·intro y0 y1 y2
   unfold Z24.l0
   repeat' first|exact ih0 _ _ _|exact lo_|refine LeO.ite ?_ ?_|refine LeO.bind ?_ (fun _ => ?_)
theorem Z24.mono : ∀ a0 k, LeO (Z24.f k a0) (Z24.f (k + 1) a0) := by
 intro a0 k
 have ih0 := Z24.mono_l k
 unfold Z24.f
 repeat' first|exact ih0 _ _ _|exact lo_|refine LeO.ite ?_ ?_|refine LeO.bind ?_ (fun _ => ?_)
set_option maxHeartbeats 8000000 in
set_option maxRecDepth 100000 in
theorem Z24.calls (k : Nat) (a0 : Int) (r : List Int) (w : World) (h : Z24.f k a0 = some r) :
  Calls Try.prog 129 #[.int .i64 a0] w fun e w' => ∃ v0_ : Value, e = .returned (v0_) ∧ Kd.R (Kd.int .i64) 3 w' w.heap.size (fun _ => True) v0_ r ∧ Below w.heap.size w w' := by
 have HB := A_ (Below.refl w.heap.size w)
 have H := h
 unfold Z24.f at H
 clear h
 obtain ⟨y156, hy156⟩ : ∃ y_ : List Int, y_ = (([] : List Int)) := ⟨_, rfl⟩
 replace H : (Z24.l0 k a0 y156 0) = some r := by first | (rw [hy156]; exact H) | exact H
 have Ny156 := A_ hy156
 clear hy156
 have H' := A_ H
 clear H
 go_enter Try.func129, Try.ntmps129
 go_wp2_with (first | ((with_reducible refine gB_ (N := 5) rfl ?_); refine Kd.R_lit (Kd.int .i64) _ 3 ?hg (N := 5) ?hd (xs := ([] : List Int)) (inner := []) (ok := fun _ => True) (okp := fun _ => True) ?hr ?hp (fun _ hk => hk) trivial (Below.refl _ _) (nA_ _) (by simp) ?_; (case hd => rfl); (case hg => rfl); (case hr => first | (go_simp; done) | (go_simp; rfl)); (case hp => exact (Reps.none _ _)); intro v157 w2 ho3 hb hg_ hnew_; clear hg_ hnew_; (first | rw [← Ny156.out] at ho3 | (simp only [Int.reduceToNat] at ho3; rw [← Ny156.out] at ho3)); have HO158 := rl_ w ho3; replace HB := b1_ hb; clear hb ho3))
 go_loopg [3, 4] k (fun kq v3 v4 w' => ∃ (x3_1 : List Int) (x4_1 : Int), v4 = .int .i64 x4_1 ∧ Aside0 (Z24.l0 kq a0 x3_1 x4_1 = some r) ∧ Aside0 (kq ≤ k) ∧ Aside0 (Kd.R (Kd.int .i64) 3 w' w.heap.size (fun _ => True) v3 x3_1) ∧ Aside0 (Below w.heap.size w w'))
 case atStart => exact ⟨(y156), (0), qc_, H', ⟨nA_ _⟩, ⟨(rr_ HO158)⟩, ⟨hB_⟩⟩
 case round =>
  clear H'
  obtain ⟨x3_1, x4_1, rfl, HA, HK1, HO_3, HB⟩ := hrel
  cases gk with
  | zero => exact absurd HA.out (by simp [Z24.l0])
  | succ k1 =>
   have H := HA.out
   clear HA
   simp only [Z24.l0] at H
   by_cases c4 : x4_1 < a0
   ·rw [if_pos c4] at H
    have c4b0 := oC_ c4
    clear c4
    have c5 := cp_ H
    replace H := ca_ H
    have LMc5 := A_ c5
    clear c5
    obtain ⟨y159, hy159⟩ : ∃ y_ : List Int, y_ = (x3_1 ++ [x4_1]) := ⟨_, rfl⟩
    replace H : (Z24.l0 k1 a0 y159 (wrap64 (x4_1 + 1))) = some r := by first | (rw [hy159]; exact H) | exact H
    have Ny159 := A_ hy159
    clear hy159
    have H' := A_ H
    clear H
    go_wp2_with (first | ((with_reducible refine gate_builtin (b := .append) (xs := #[.tmp 11, .tmp 13]) rfl ?_); at_builtin; refine Kd.R_append (Kd.int .i64) (w0 := w) w.heap.size rfl (.tmp 11) (.tmp 13) 23 3 (.int .i64 0) 8 rfl Try.underlying23 info3 rfl (by decide) (by omega) u3 x3_1 x4_1 [.int .i64 x4_1] (fun _ => True) (fun _ => False) rfl rfl ?aP (fun _ hk => hk.elim) ?aF ?aO ?aB ?aS ?aL ?_; (case aP => exact rfl); (case aB => exact hB_); (case aF => exact (fun _ _ => trivial)); (case aO => exact (rr_ HO_3)); (case aS => exact (bF_ hB_)); (case aL => have := LMc5.out; omega); intro v160 w6 ho hb hg hat; rw [← Ny159.out] at ho; replace HB := A_ hb; have HO161 := A_ ho; clear HO_3; clear ho hb hg hat))
    go_roundg k1
    case measure => have := HK1.out; omega
    case rel => exact ⟨(y159), (wrap64 (x4_1 + 1)), qc_, H', ⟨by have := HK1.out; omega⟩, ⟨(rr_ HO161)⟩, ⟨hB_⟩⟩
   ·rw [if_neg c4] at H
    have c4b0 := oD_ c4
    clear c4
    obtain rfl := Option.some.inj H
    go_wp2
    go_ret
    exact ⟨_, qb_, (rr_ HO_3), hB_⟩
end Go.Proofs.Ytcggfjpnfodbaaa.A
end
section
namespace Go.Proofs.Ytcggfjpnfodbaaa.A
open Go.RowKit Go.Proofs.YtcggfjpnfodbaaaW.PrintWords Go.Proofs.YtcggfjpnfodbaaaW.PrintLast Go.Proofs.YtcggfjpnfodbaaaW.PrintMore
attribute [local go_sem] max2_int min2_int max_two min_two max_three min_three max_four min_four
set_option linter.unusedVariables false
set_option linter.unusedSimpArgs false
mutual
def Z55.j0 : Nat → Int → Int → Bool → Option (List Int × List Int × Bool)
 | 0, _, _, _ => none
 | k + 1, x0, x1, x24 => if x24 = true then (some (([] : List Int), ([] : List Int), false)) else ((Z24.f k (wrap64 ((wrap64 (x0 + x1)) - 1))).bind fun t165 => ((Z24.f k (wrap64 ((wrap64 (x0 + x1)) - 1))).bind fun t168 => (Z55.l0 k x0 x1 (wrap64 ((wrap64 (x0 + x1)) - 1)) 0 t165 t168)))
def Z55.l0 : Nat → Int → Int → Int → Int → List Int → List Int → Option (List Int × List Int × Bool)
 | 0, _, _, _, _, _, _ => none
 | k + 1, x0, x1, x6, x8, x172000, x172001 => if x8 < x0 then (if x0 = 0 then (none) else (if 0 ≤ x8 then (if x8 < (x172000.length : Int) then (Z55.l0 k x0 x1 x6 (wrap64 (x8 + 1)) (x172000.set (x8 : Int).toNat (Int.tmod (wrap64 (x8 + 1)) x0)) x172001) else (none)) else (none))) else (if x1 > 1 then (if 0 < (x172001.length : Int) then (Z55.l1 k x6 x0 x172000 (x172001.set (0 : Int).toNat x0)) else (none)) else (some (x172000, x172001, true)))
def Z55.l1 : Nat → Int → Int → List Int → List Int → Option (List Int × List Int × Bool)
 | 0, _, _, _, _ => none
 | k + 1, x6, x9, x172000, x172001 => if x9 < x6 then (if x6 = 0 then (none) else (if 0 ≤ x9 then (if x9 < (x172001.length : Int) then (Z55.l1 k x6 (wrap64 (x9 + 1)) x172000 (x172001.set (x9 : Int).toNat (Int.tmod (wrap64 (x9 + 1)) x6))) else (none)) else (none))) else (some (x172000, x172001, true))
end
def Z55.f (k : Nat) (a0 : Int) (a1 : Int) : Option (List Int × List Int × Bool) := (Z56.f a0 1 24).bind fun t163 => (if t163 = true then ((Z56.f a1 1 24).bind fun t164 => (if t164 = true then (Z55.j0 k a0 a1 (decide ((wrap64 ((wrap64 (a0 + a1)) - 1)) > 24))) else (Z55.j0 k a0 a1 true))) else (Z55.j0 k a0 a1 true))
theorem Z55.mono_l : ∀ k, (∀ y0 y1 y2, LeO (Z55.j0 k y0 y1 y2) (Z55.j0 (k + 1) y0 y1 y2)) ∧ (∀ y0 y1 y2 y3 y4 y5, LeO (Z55.l0 k y0 y1 y2 y3 y4 y5) (Z55.l0 (k + 1) y0 y1 y2 y3 y4 y5)) ∧ (∀ y0 y1 y2 y3, LeO (Z55.l1 k y0 y1 y2 y3) (Z55.l1 (k + 1) y0 y1 y2 y3))
 | 0 => ⟨fun _ _ _ r h => by simp [Z55.j0] at h, fun _ _ _ _ _ _ r h => by simp [Z55.l0] at h, fun _ _ _ _ r h => by simp [Z55.l1] at h⟩
 | k + 1 => by
  obtain ⟨ih0, ih1, ih2⟩ := Z55.mono_l k
  refine ⟨?_, ?_, ?_⟩
  ·intro y0 y1 y2
   unfold Z55.j0
   repeat' first|exact ih0 _ _ _|exact ih1 _ _ _ _ _ _|exact ih2 _ _ _ _|exact Z24.mono _ _|exact lo_|refine LeO.ite ?_ ?_|refine LeO.bind ?_ (fun _ => ?_)
  ·intro y0 y1 y2 y3 y4 y5
   unfold Z55.l0
   repeat' first|exact ih0 _ _ _|exact ih1 _ _ _ _ _ _|exact ih2 _ _ _ _|exact Z24.mono _ _|exact lo_|refine LeO.ite ?_ ?_|refine LeO.bind ?_ (fun _ => ?_)
  ·intro y0 y1 y2 y3
   unfold Z55.l1
   repeat' first|exact ih0 _ _ _|exact ih1 _ _ _ _ _ _|exact ih2 _ _ _ _|exact Z24.mono _ _|exact lo_|refine LeO.ite ?_ ?_|refine LeO.bind ?_ (fun _ => ?_)
theorem Z55.mono : ∀ a0 a1 k, LeO (Z55.f k a0 a1) (Z55.f (k + 1) a0 a1) := by
 intro a0 a1 k
 obtain ⟨ih0, ih1, ih2⟩ := Z55.mono_l k
 unfold Z55.f
 repeat' first|exact ih0 _ _ _|exact ih1 _ _ _ _ _ _|exact ih2 _ _ _ _|exact Z24.mono _ _|exact lo_|refine LeO.ite ?_ ?_|refine LeO.bind ?_ (fun _ => ?_)
def Z55.T8 : Bool × List (List Nat × List Nat) := (true, [([], []), ([0], [0]), ([], []), ([], []), ([3], [3]), ([], []), ([4, 5], [4, 5]), ([1, 2, 0, 1, 2, 3, 4, 5, 6], [1, 2]), ([7, 6, 0, 1, 2, 3, 4, 5, 6], [6, 7])])
def Z55.B8 : List Nat := [0, 1, 0, 0, 8, 0, 56, 127, 255]
theorem Z55.tab8 : rtab .any (opsOf Try.f96 8) = Z55.T8 := by kernel_rfl
theorem Z55.bits8 : waitsOk Z55.T8.2 Z55.B8 = true := by kernel_rfl
def Z55.T14 : Bool × List (List Nat × List Nat) := (true, [([], []), ([0], [0]), ([], []), ([], []), ([3], [3]), ([], []), ([4, 5], [4, 5]), ([1, 2, 0, 1, 2, 3, 4, 5, 6], [1, 2]), ([7, 6, 0, 1, 2, 3, 4, 5, 6], [6, 7])])
def Z55.B14 : List Nat := [0, 1, 0, 0, 8, 0, 56, 127, 255]
theorem Z55.tab14 : rtab .any (opsOf Try.f96 14) = Z55.T14 := by kernel_rfl
theorem Z55.bits14 : waitsOk Z55.T14.2 Z55.B14 = true := by kernel_rfl
set_option maxHeartbeats 8000000 in
set_option maxRecDepth 100000 in
theorem Z55.calls (k : Nat) (a0 : Int) (a1 : Int) (r1 : List Int) (r2 : List Int) (r3 : Bool) (w : World) (h : Z55.f k a0 a1 = some (r1, r2, r3)) :
  Calls Try.prog 96 #[.int .i64 a0, .int .i64 a1] w fun e w' => ∃ v0_ v1_ : Value, e = .returned (.tuple #[.agg #[v0_, v1_], .bool r3]) ∧ Kd.R (Kd.int .i64) 3 w' w.heap.size (fun k_ => some k_ ≠ (v1_ : Value).ownBlock) v0_ r1 ∧ Kd.R (Kd.int .i64) 3 w' w.heap.size (fun k_ => some k_ ≠ (v0_ : Value).ownBlock) v1_ r2 ∧ Below w.heap.size w w' := by
 have hu25 := Try.underlying25
 have HB := A_ (Below.refl w.heap.size w)
 have H := h
 unfold Z55.f at H
 clear h
 have HC3 := A_ H
 clear H
 go_enter Try.func96, Try.ntmps96
 go_upto_region 1 with (first | ((with_reducible refine gB_ (N := 4) rfl ?_); refine bx_ 4 #[.slice none 0 0, .slice none 0 0] 25 ?_; intro gb162 hg w4 hbox hb; have BK162 := A_ hbox; have GW162 := gw_ w hg; have GE162 := GW162; replace HB := b1_ hb; clear hb hbox hg))
 (try simp only [Act.put, sA_, sB_, sC_])
 go_cut [24] (fun v24 wc => ∃ (kq : Nat) (x24_2 : Bool), v24 = .bool x24_2 ∧ Aside0 (Z55.j0 kq a0 a1 x24_2 = some (r1, r2, r3)) ∧ Aside0 (kq ≤ k) ∧ Aside0 (wc.heap[gb162]? = some (.cells #[(.slice none 0 0), (.slice none 0 0)] 25 (0, 0))) ∧ Aside0 (Below w.heap.size w wc))
 case first =>
  have H := HC3.out
  clear HC3
  obtain ⟨t163, A5, H⟩ := bi_ H
  by_cases c6 : t163 = true
  ·subst c6
   rw [if_pos rfl] at H
   obtain ⟨t164, A7, H⟩ := bi_ H
   by_cases c8 : t164 = true
   ·subst c8
    rw [if_pos rfl] at H
    have H' := A_ H
    clear H
    go_wp2_with (first | ((with_reducible refine gA_ (f := 128) rfl ?_); refine gL_ (some 11) Try.func128 #[.int .i64 a0, .int .i64 1, .int .i64 24] rfl qa_ ?_; (with_reducible refine (Z56.calls a0 1 24 true _ A5.out).mono ?_); rintro e w' ⟨rfl, ⟨nd, rfl⟩⟩; refine ⟨_, rfl, ?_⟩) | (go_at_call 128; (with_reducible refine (Z56.calls a1 1 24 true _ A7.out).mono ?_); rintro e w' ⟨rfl, ⟨nd, rfl⟩⟩))
    go_meet
    case rel => exact ⟨_, (decide ((wrap64 ((wrap64 (a0 + a1)) - 1)) > 24)), qc_, H', ⟨qd_⟩, ⟨(kk_ BK162)⟩, ⟨hB_⟩⟩
   ·replace c8 := Bool.eq_false_iff.mpr c8
    subst c8
    have H1 : (Z55.j0 k a0 a1 true) = some (r1, r2, r3) := by rw [if_neg (show ¬ (false = true) by decide)] at H; exact H
    clear H
    have H := H1
    clear H1
    have H' := A_ H
    clear H
    go_wp2_with (first | ((with_reducible refine gA_ (f := 128) rfl ?_); refine gL_ (some 11) Try.func128 #[.int .i64 a0, .int .i64 1, .int .i64 24] rfl qa_ ?_; (with_reducible refine (Z56.calls a0 1 24 true _ A5.out).mono ?_); rintro e w' ⟨rfl, ⟨nd, rfl⟩⟩; refine ⟨_, rfl, ?_⟩) | (go_at_call 128; (with_reducible refine (Z56.calls a1 1 24 false _ A7.out).mono ?_); rintro e w' ⟨rfl, ⟨nd, rfl⟩⟩))
    go_meet
    case rel => exact ⟨_, (true), qc_, H', ⟨qd_⟩, ⟨(kk_ BK162)⟩, ⟨hB_⟩⟩
  ·replace c6 := Bool.eq_false_iff.mpr c6
   subst c6
   have H1 : (Z55.j0 k a0 a1 true) = some (r1, r2, r3) := by rw [if_neg (show ¬ (false = true) by decide)] at H; exact H
   clear H
   have H := H1
   clear H1
   have H' := A_ H
   clear H
   go_wp2_with (first | ((with_reducible refine gA_ (f := 128) rfl ?_); refine gL_ (some 11) Try.func128 #[.int .i64 a0, .int .i64 1, .int .i64 24] rfl qa_ ?_; (with_reducible refine (Z56.calls a0 1 24 false _ A5.out).mono ?_); rintro e w' ⟨rfl, ⟨nd, rfl⟩⟩; refine ⟨_, rfl, ?_⟩))
   go_meet
   case rel => exact ⟨_, (true), qc_, H', ⟨qd_⟩, ⟨(kk_ BK162)⟩, ⟨hB_⟩⟩
 case rest =>
  clear HC3
  obtain ⟨kq, x24_2, rfl, HA, HJ2, BK162, HB⟩ := hcut
  cases kq with
  | zero => exact absurd HA.out (by simp [Z55.j0])
  | succ kj2 =>
   have H := HA.out
   clear HA
   simp only [Z55.j0] at H
   by_cases c9 : x24_2 = true
   ·subst c9
    rw [if_pos rfl] at H
    simp only [Option.some.injEq, Prod.mk.injEq] at H
    obtain ⟨rfl, rfl, rfl⟩ := H
    obtain ⟨hcz10_0, hcz10_1, hfz10_0, hfz10_1⟩ := c2_ BK162
    go_wp2
    refine bodyPost_ret (results_ct rfl _ _ gb162 25 #[.slice none 0 0, .slice none 0 0] (0, 0) _ rfl qp_ Try.underlying25 rfl (by kernel_rfl)) rfl ?_
    exact ⟨_, _, qb_, by first | exact Kd.R_nil _ _ _ _ _ | exact Kd.N_nil _ _ _ _ _ | exact Kd.V_nil _ _ _ _ _ | exact Kd.Q_nil _ _ _ _ _ | exact Kd.S_nil _ _ _ _ _, by first | exact Kd.R_nil _ _ _ _ _ | exact Kd.N_nil _ _ _ _ _ | exact Kd.V_nil _ _ _ _ _ | exact Kd.Q_nil _ _ _ _ _ | exact Kd.S_nil _ _ _ _ _, hB_⟩
   ·replace c9 := Bool.eq_false_iff.mpr c9
    subst c9
    have H1 : ((Z24.f kj2 (wrap64 ((wrap64 (a0 + a1)) - 1))).bind fun t165 => ((Z24.f kj2 (wrap64 ((wrap64 (a0 + a1)) - 1))).bind fun t168 => (Z55.l0 kj2 a0 a1 (wrap64 ((wrap64 (a0 + a1)) - 1)) 0 t165 t168))) = some (r1, r2, r3) := by rw [if_neg (show ¬ (false = true) by decide)] at H; exact H
    clear H
    have H := H1
    clear H1
    obtain ⟨t165, A11, H⟩ := bi_ H
    obtain ⟨t168, A12, H⟩ := bi_ H
    have H' := A_ H
    clear H
    go_wp2_with (first | ((with_reducible refine gA_ (f := 129) rfl ?_); refine gL_ (some 31) Try.func129 #[.int .i64 (wrap64 ((wrap64 (a0 + a1)) - 1))] rfl qa_ ?_; (with_reducible refine (Z24.calls kj2 (wrap64 ((wrap64 (a0 + a1)) - 1)) t165 _ A11.out).mono ?_); rintro e w13 ⟨v166, rfl, ho0, hb⟩; refine ⟨_, rfl, ?_⟩; have HO167 := rl_ w ho0; replace BK162 := bb_ BK162 hb; replace HB := b1_ hb; clear hb ho0) | ((with_reducible refine gA_ (f := 129) rfl ?_); refine gL_ (some 33) Try.func129 #[.int .i64 (wrap64 ((wrap64 (a0 + a1)) - 1))] rfl qa_ ?_; (with_reducible refine (Z24.calls kj2 (wrap64 ((wrap64 (a0 + a1)) - 1)) t168 _ A12.out).mono ?_); rintro e w14 ⟨v169, rfl, ho0, hb⟩; refine ⟨_, rfl, ?_⟩; have HO170 := A_ (rE_ (Kd.R_new' ho0 (Kd.R_lt (rr_ HO167))) (bF_ hB_)); replace HO167 := A_ (Kd.R_elder' (rr_ HO167) (Kd.R_base ho0) hb); replace BK162 := bb_ BK162 hb; replace HB := b1_ hb; clear hb ho0; obtain ⟨Ao15, co15, eo15⟩ := Kd.R_slice HO170.out; subst eo15; obtain ⟨Ao16, co16, eo16⟩ := Kd.R_slice HO167.out; subst eo16) | ((with_reducible refine gB_ (N := 7) rfl ?_); refine bx_ 7 #[.slice none 0 0, .slice none 0 0] 25 ?_; intro gb171 hg w17 hbox hb; replace HO167 := rb_ HO167 hb; replace HO170 := rb_ HO170 hb; have BK171 := A_ hbox; have GW171 := gw_ w hg; have GE171 := GW171; replace HB := b1_ hb; have NB162_171 := gN_ BK162 hg; have NB171_162 := gP_ BK162 hg; replace BK162 := bb_ BK162 hb; clear hb hbox hg; have hnb18 := NB171_162.out; have hnc18 := NB162_171.out; obtain ⟨hcz19_0, hcz19_1, hfz19_0, hfz19_1⟩ := c2_ BK171))
    go_loopg [8] kj2 (fun kq v8 w' => ∃ (x8_2 : Int) (x172000_2 : List Int) (x172001_2 : List Int) (u172000 : Value) (u172001 : Value), v8 = .int .i64 x8_2 ∧ Aside0 (Z55.l0 kq a0 a1 (wrap64 ((wrap64 (a0 + a1)) - 1)) x8_2 x172000_2 x172001_2 = some (r1, r2, r3)) ∧ Aside0 (kq ≤ kj2) ∧ Aside0 (Kd.R (Kd.int .i64) 3 w' w.heap.size (fun k_ => some k_ ≠ (u172001 : Value).ownBlock) u172000 x172000_2) ∧ Aside0 (Kd.R (Kd.int .i64) 3 w' w.heap.size (fun k_ => some k_ ≠ (u172000 : Value).ownBlock) u172001 x172001_2) ∧ Aside0 (w'.heap[gb162]? = some (.cells #[(.slice none 0 0), (.slice none 0 0)] 25 (0, 0))) ∧ Aside0 (w'.heap[gb171]? = some (.cells #[u172000, u172001] 25 (0, 0))) ∧ Aside0 (Below w.heap.size w w'))
    case atStart => exact ⟨(0), (t165), (t168), (.slice Ao16 t165.length co16), (.slice Ao15 t168.length co15), qc_, H', ⟨nA_ _⟩, ⟨(rw_ (Kd.R_mono (fa_ HO167 BK171) (fun _ hk => hk.2)))⟩, ⟨(rw_ (Kd.R_mono (fa_ HO170 BK171) (fun _ hk => hk.2)))⟩, ⟨by (with_reducible repeat (first | refine kA_ ?_ _ | refine kB_ ?_ | refine kC_ ?_ _)); refine blk_far ?_ NB162_171.out _; (with_reducible repeat (first | refine kA_ ?_ _ | refine kB_ ?_ | refine kC_ ?_ _)); refine blk_far ?_ NB162_171.out _; (with_reducible repeat (first | refine kA_ ?_ _ | refine kB_ ?_ | refine kC_ ?_ _)); exact BK162.out⟩, ⟨qp_⟩, ⟨hB_⟩⟩
    case round =>
     clear H'
     obtain ⟨x8_2, x172000_2, x172001_2, u172000, u172001, rfl, HA, HK2, HO_172000, HO_172001, BK162, BK171, HB⟩ := hrel
     cases gk with
     | zero => exact absurd HA.out (by simp [Z55.l0])
     | succ k2 =>
      have H := HA.out
      clear HA
      simp only [Z55.l0] at H
      by_cases c20 : x8_2 < a0
      ·rw [if_pos c20] at H
       have c20b0 := oC_ c20
       clear c20
       by_cases c21 : a0 = 0
       ·rw [if_pos c21] at H
        exact absurd H (by simp)
       ·rw [if_neg c21] at H
        have c21b0 : (a0 == 0) = false := beq_eq_false_iff_ne.mpr c21
        have c21b1 : (a0 != 0) = true := bne_iff_ne.mpr c21
        have c22 := cp_ H
        replace H := ca_ H
        have c22b0 := oC_ c22
        clear c22
        have c23 := cp_ H
        replace H := ca_ H
        have c23b0 := oC_ c23
        clear c23
        obtain ⟨y172, hy172⟩ : ∃ y_ : List Int, y_ = (x172000_2.set (x8_2 : Int).toNat (Int.tmod (wrap64 (x8_2 + 1)) a0)) := ⟨_, rfl⟩
        replace H : (Z55.l0 k2 a0 a1 (wrap64 ((wrap64 (a0 + a1)) - 1)) (wrap64 (x8_2 + 1)) y172 x172001_2) = some (r1, r2, r3) := by first | (rw [hy172]; exact H) | exact H
        have Ny172 := A_ hy172
        clear hy172
        have H' := A_ H
        clear H
        try go_wp2
        replace HO_172000 := A_ (rC_ HO_172000.out)
        replace HO_172001 := A_ (rC_ HO_172001.out)
        replace BK162 := A_ (kB_ BK162.out)
        replace BK171 := A_ (kB_ BK171.out)
        replace HB := A_ (bC_ HB.out)
        have p24 : 0 ≤ (x8_2 : Int) := oB_ qe_
        have q24 : (x8_2 : Int) < ((x172000_2.length : Int) : Int) := oB_ qe_
        obtain ⟨go24, co24, eo24, gb24, gl24, cl24, HG24⟩ := Kd.R_form HO_172000.out (by omega)
        (first | cases eo24 | (injection eo24 with ea_ en_ ec_; (first | subst ea_ | (injection ea_ with ea_; subst ea_)); subst ec_; clear en_))
        have GB24 := A_ gb24
        have GG24 := A_ HG24
        clear gb24 gl24 HG24
        obtain ⟨hx24_0, hf24_0⟩ := Kd.R_celln 0 HO_172000.out (x8_2 : Int) p24 q24
        replace p24 := eq_true p24
        replace q24 := eq_true q24
        have HP26 := Kd.R_putn HO_172000.out (x8_2 : Int) (Int.tmod (wrap64 (x8_2 + 1)) a0)
        rw [← Ny172.out] at HP26
        have HQ26 := A_ HP26
        clear HP26
        refine start_ (n := 9) (S := fun w' => w'.cell? ⟨gb171, 0, none⟩ = some (.slice (some ⟨go24, 0, none⟩) x172000_2.length co24) ∧ w'.cell? ⟨gb171, 1, none⟩ = some (u172001)) (ds := [8]) (bl_ 9 0) (by kernel_rfl) rfl (by kernel_rfl) ⟨cz0_ BK171, cz1_ BK171⟩ (fun hHeld => ?_); refine with_tabW Z55.tab8 Z55.bits8 (fun HT_ HW_ => ?_)
        generalize wr.drew = w25 at HO_172000 HO_172001 BK162 BK171 HB GG24 HQ26 hf24_0 hx24_0 hHeld ⊢
        refine pu_ 0 (some 40) (bl_ 9 1) HT_ ?_
        refine pu_ 2 (some 42) (bl_ 9 5) HT_ ?_
        refine pu_ 3 (some 43) (bl_ 9 13) HT_ ?_
        refine pu_ 4 (some 44) (bl_ 9 29) HT_ ?_
        refine pu_ 5 (some 45) (bl_ 9 61) HT_ ?_
        refine pu_ 6 (some 46) (bl_ 9 125) HT_ ?_
        refine ta_ 1 (some 41) (bl_ 9 127) HT_ HW_ hHeld ?_
        refine pu_ 7 (some 47) (bl_ 9 255) HT_ ?_
        refine last_ (i := 8) (N := none) (bl_ 9 511) rfl rfl (one_of HT_.out (by kernel_rfl)) (by decide) (fun K hK => ?_)
        refine skip_ (w1 := ?_) (by rfl) rfl ?_ ?_
        rotate_left
        ·go_simp
         rfl
        refine hK.out _ _ ?_
        clear hK K
        refine done_ (done_of HT_.out (by kernel_rfl)) ?_
        try go_wp2
        go_roundg k2
        case measure => have := HJ2.out; have := HK2.out; omega
        case rel => exact ⟨(wrap64 (x8_2 + 1)), (y172), (x172001_2), (.slice (some ⟨go24, 0, none⟩) x172000_2.length co24), (u172001), qc_, H', ⟨by have := HJ2.out; have := HK2.out; omega⟩, ⟨(rr_ HQ26)⟩, ⟨(rw_ (Kd.R_mono (Kd.R_far (p := ⟨go24, (x8_2 : Int).toNat, none⟩) (Kd.R_mono HO_172001.out (fun k_ hk => (⟨hk, fun e_ => hk (by rw [e_]; rfl)⟩ : _ ∧ k_ ≠ go24))) (fun _ hk => hk.2) (.int .i64 (Int.tmod (wrap64 (x8_2 + 1)) a0))) (fun _ hk => hk.1)))⟩, ⟨by (with_reducible repeat (first | refine kA_ ?_ _ | refine kB_ ?_ | refine kC_ ?_ _)); refine blk_far ?_ (by have h_ := Kd.R_ne HO_172000.out BK162.out (by decide); intro e_; exact h_ (by rw [e_]; rfl)) _; (with_reducible repeat (first | refine kA_ ?_ _ | refine kB_ ?_ | refine kC_ ?_ _)); exact BK162.out⟩, ⟨by (with_reducible repeat (first | refine kA_ ?_ _ | refine kB_ ?_ | refine kC_ ?_ _)); refine blk_far ?_ (by have h_ := Kd.R_ne HO_172000.out BK171.out (by decide); intro e_; exact h_ (by rw [e_]; rfl)) _; (with_reducible repeat (first | refine kA_ ?_ _ | refine kB_ ?_ | refine kC_ ?_ _)); exact BK171.out⟩, ⟨by repeat (first | (with_reducible first | exact HB.out | apply bA_ | apply bB_ | apply bC_ | refine bD_ ?_ GB24.out | refine bD_ ?_ GE162.out | refine bD_ ?_ GE171.out) | exact HB.out)⟩⟩
      ·rw [if_neg c20] at H
       have c20b0 := oD_ c20
       clear c20
       by_cases c27 : a1 > 1
       ·rw [if_pos c27] at H
        have c27b0 : decide (1 < a1) = true := oC_ c27
        clear c27
        have c28 := cp_ H
        replace H := ca_ H
        have c28b0 := oC_ c28
        have c28b1 : decide (0 < x172001_2.length) = true := oC_ (by omega)
        clear c28
        obtain ⟨y173, hy173⟩ : ∃ y_ : List Int, y_ = (x172001_2.set (0 : Int).toNat a0) := ⟨_, rfl⟩
        replace H : (Z55.l1 k2 (wrap64 ((wrap64 (a0 + a1)) - 1)) a0 x172000_2 y173) = some (r1, r2, r3) := by first | (rw [hy173]; exact H) | exact H
        have Ny173 := A_ hy173
        clear hy173
        have H' := A_ H
        clear H
        have hnb30 := NB171_162.out
        have hnc30 := NB162_171.out
        obtain ⟨hcz31_0, hcz31_1, hfz31_0, hfz31_1⟩ := c2_ BK171
        have p29 : 0 ≤ (0 : Int) := (by omega)
        have q29 : (0 : Int) < ((x172001_2.length : Int) : Int) := oB_ qe_
        have qi29 : (0 < x172001_2.length) = True := eq_true (by omega)
        obtain ⟨go29, co29, eo29, gb29, gl29, cl29, HG29⟩ := Kd.R_form HO_172001.out (by omega)
        (first | cases eo29 | (injection eo29 with ea_ en_ ec_; (first | subst ea_ | (injection ea_ with ea_; subst ea_)); subst ec_; clear en_))
        have GB29 := A_ gb29
        have GG29 := A_ HG29
        clear gb29 gl29 HG29
        obtain ⟨hx29_0, hf29_0⟩ := Kd.R_celln 0 HO_172001.out (0 : Int) p29 q29
        (try rw [show ((0 : Int)).toNat = 0 from rfl] at hx29_0)
        (try simp only [Nat.reduceMul, Nat.zero_mul, Nat.zero_add, Nat.reduceAdd] at hx29_0)
        (try rw [show ((0 : Int)).toNat = 0 from rfl] at hf29_0)
        (try simp only [Nat.reduceMul, Nat.zero_mul, Nat.zero_add, Nat.reduceAdd] at hf29_0)
        replace p29 := eq_true p29
        replace q29 := eq_true q29
        have HP32 := Kd.R_putg HO_172001.out (0 : Int) a0
        go_wp2_with (first | ((with_reducible refine gate_store (t := 3) (p := 53) rfl ?_); refine store_event (t := 3) (p := 53) (v := ?vo_w33) (w1 := (wr.setCell ⟨go29, (0 : Int).toNat, none⟩ (.int .i64 a0))) ?hg ?ho ?hn ?hr ?_; (case ho => rfl); (case hg => rfl); (case hn => rfl); (case hr => first | (go_simp; done) | (go_simp; rfl)); intro w33 hw; have hg : wr.grownBy w33 (some go29) := (by rw [hw]; exact HP32.2); have hp_ : Kd.R (Kd.int .i64) 3 w33 w.heap.size (fun k_ => some k_ ≠ (u172000 : Value).ownBlock) (.slice (some ⟨go29, 0, none⟩) x172001_2.length co29) y173 := (by rw [hw, Ny173.out]; exact HP32.1); clear HP32; replace HO_172000 := A_ (Kd.R_after (v := (.slice (some ⟨go29, 0, none⟩) x172001_2.length co29)) (v1 := (.slice (some ⟨go29, 0, none⟩) x172001_2.length co29)) (ok := (fun _ => True)) (rw_ (Kd.R_mono HO_172000.out (fun _ hk => ⟨trivial, hk⟩))) hg (.inl rfl)); replace BK162 := A_ (blk_grown (kk_ BK162) hg (Kd.R_ne HO_172001.out BK162.out (by decide))); replace BK171 := A_ (blk_grown (kk_ BK171) hg (Kd.R_ne HO_172001.out BK171.out (by decide))); replace HO_172001 := A_ (hp_); replace HB := A_ ((by rw [hw]; exact bD_ (HB.out) GB29.out : Below w.heap.size w w33)); clear hg hw hp_))
        go_loopg [9] k2 (fun kq v9 w' => ∃ (x9_3 : Int) (x172000_3 : List Int) (x172001_3 : List Int) (u172000 : Value) (u172001 : Value), v9 = .int .i64 x9_3 ∧ Aside0 (Z55.l1 kq (wrap64 ((wrap64 (a0 + a1)) - 1)) x9_3 x172000_3 x172001_3 = some (r1, r2, r3)) ∧ Aside0 (kq ≤ k2) ∧ Aside0 (Kd.R (Kd.int .i64) 3 w' w.heap.size (fun k_ => some k_ ≠ (u172001 : Value).ownBlock) u172000 x172000_3) ∧ Aside0 (Kd.R (Kd.int .i64) 3 w' w.heap.size (fun k_ => some k_ ≠ (u172000 : Value).ownBlock) u172001 x172001_3) ∧ Aside0 (w'.heap[gb162]? = some (.cells #[(.slice none 0 0), (.slice none 0 0)] 25 (0, 0))) ∧ Aside0 (w'.heap[gb171]? = some (.cells #[u172000, u172001] 25 (0, 0))) ∧ Aside0 (Below w.heap.size w w'))
        case atStart => exact ⟨(a0), (x172000_2), (y173), (u172000), (.slice (some ⟨go29, 0, none⟩) x172001_2.length co29), qc_, H', ⟨nA_ _⟩, ⟨(rw_ (Kd.R_mono HO_172000.out (fun _ hk => hk.2)))⟩, ⟨(rr_ HO_172001)⟩, ⟨(kk_ BK162)⟩, ⟨(kk_ BK171)⟩, ⟨hB_⟩⟩
        case round =>
         clear H'
         obtain ⟨x9_3, x172000_3, x172001_3, u172000, u172001, rfl, HA, HK3, HO_172000, HO_172001, BK162, BK171, HB⟩ := hrel
         cases gk with
         | zero => exact absurd HA.out (by simp [Z55.l1])
         | succ k3 =>
          have H := HA.out
          clear HA
          simp only [Z55.l1] at H
          by_cases c34 : x9_3 < (wrap64 ((wrap64 (a0 + a1)) - 1))
          ·rw [if_pos c34] at H
           have c34b0 := oC_ c34
           clear c34
           by_cases c35 : (wrap64 ((wrap64 (a0 + a1)) - 1)) = 0
           ·rw [if_pos c35] at H
            exact absurd H (by simp)
           ·rw [if_neg c35] at H
            have c35b0 : ((wrap64 ((wrap64 (a0 + a1)) - 1)) == 0) = false := beq_eq_false_iff_ne.mpr c35
            have c35b1 : ((wrap64 ((wrap64 (a0 + a1)) - 1)) != 0) = true := bne_iff_ne.mpr c35
            have c36 := cp_ H
            replace H := ca_ H
            have c36b0 := oC_ c36
            clear c36
            have c37 := cp_ H
            replace H := ca_ H
            have c37b0 := oC_ c37
            clear c37
            obtain ⟨y174, hy174⟩ : ∃ y_ : List Int, y_ = (x172001_3.set (x9_3 : Int).toNat (Int.tmod (wrap64 (x9_3 + 1)) (wrap64 ((wrap64 (a0 + a1)) - 1)))) := ⟨_, rfl⟩
            replace H : (Z55.l1 k3 (wrap64 ((wrap64 (a0 + a1)) - 1)) (wrap64 (x9_3 + 1)) x172000_3 y174) = some (r1, r2, r3) := by first | (rw [hy174]; exact H) | exact H
            have Ny174 := A_ hy174
            clear hy174
            have H' := A_ H
            clear H
            try go_wp2
            replace HO_172000 := A_ (rC_ HO_172000.out)
            replace HO_172001 := A_ (rC_ HO_172001.out)
            replace BK162 := A_ (kB_ BK162.out)
            replace BK171 := A_ (kB_ BK171.out)
            replace HB := A_ (bC_ HB.out)
            have p38 : 0 ≤ (x9_3 : Int) := oB_ qe_
            have q38 : (x9_3 : Int) < ((x172001_3.length : Int) : Int) := oB_ qe_
            obtain ⟨go38, co38, eo38, gb38, gl38, cl38, HG38⟩ := Kd.R_form HO_172001.out (by omega)
            (first | cases eo38 | (injection eo38 with ea_ en_ ec_; (first | subst ea_ | (injection ea_ with ea_; subst ea_)); subst ec_; clear en_))
            have GB38 := A_ gb38
            have GG38 := A_ HG38
            clear gb38 gl38 HG38
            obtain ⟨hx38_0, hf38_0⟩ := Kd.R_celln 0 HO_172001.out (x9_3 : Int) p38 q38
            replace p38 := eq_true p38
            replace q38 := eq_true q38
            have HP40 := Kd.R_putn HO_172001.out (x9_3 : Int) (Int.tmod (wrap64 (x9_3 + 1)) (wrap64 ((wrap64 (a0 + a1)) - 1)))
            rw [← Ny174.out] at HP40
            have HQ40 := A_ HP40
            clear HP40
            refine start_ (n := 9) (S := fun w' => w'.cell? ⟨gb171, 0, none⟩ = some (u172000) ∧ w'.cell? ⟨gb171, 1, none⟩ = some (.slice (some ⟨go38, 0, none⟩) x172001_3.length co38)) (ds := [8]) (bl_ 9 0) (by kernel_rfl) rfl (by kernel_rfl) ⟨cz0_ BK171, cz1_ BK171⟩ (fun hHeld => ?_); refine with_tabW Z55.tab14 Z55.bits14 (fun HT_ HW_ => ?_)
            generalize wr.drew = w39 at HO_172000 HO_172001 BK162 BK171 HB GG38 HQ40 hf38_0 hx38_0 hHeld ⊢
            refine pu_ 0 (some 60) (bl_ 9 1) HT_ ?_
            refine pu_ 2 (some 62) (bl_ 9 5) HT_ ?_
            refine pu_ 3 (some 63) (bl_ 9 13) HT_ ?_
            refine pu_ 4 (some 64) (bl_ 9 29) HT_ ?_
            refine pu_ 5 (some 65) (bl_ 9 61) HT_ ?_
            refine pu_ 6 (some 66) (bl_ 9 125) HT_ ?_
            refine ta_ 1 (some 61) (bl_ 9 127) HT_ HW_ hHeld ?_
            refine pu_ 7 (some 67) (bl_ 9 255) HT_ ?_
            refine last_ (i := 8) (N := none) (bl_ 9 511) rfl rfl (one_of HT_.out (by kernel_rfl)) (by decide) (fun K hK => ?_)
            refine skip_ (w1 := ?_) (by rfl) rfl ?_ ?_
            rotate_left
            ·go_simp
             rfl
            refine hK.out _ _ ?_
            clear hK K
            refine done_ (done_of HT_.out (by kernel_rfl)) ?_
            try go_wp2
            go_roundg k3
            case measure => have := HJ2.out; have := HK2.out; have := HK3.out; omega
            case rel => exact ⟨(wrap64 (x9_3 + 1)), (x172000_3), (y174), (u172000), (.slice (some ⟨go38, 0, none⟩) x172001_3.length co38), qc_, H', ⟨by have := HJ2.out; have := HK2.out; have := HK3.out; omega⟩, ⟨(rw_ (Kd.R_mono (Kd.R_far (p := ⟨go38, (x9_3 : Int).toNat, none⟩) (Kd.R_mono HO_172000.out (fun k_ hk => (⟨hk, fun e_ => hk (by rw [e_]; rfl)⟩ : _ ∧ k_ ≠ go38))) (fun _ hk => hk.2) (.int .i64 (Int.tmod (wrap64 (x9_3 + 1)) (wrap64 ((wrap64 (a0 + a1)) - 1))))) (fun _ hk => hk.1)))⟩, ⟨(rr_ HQ40)⟩, ⟨by (with_reducible repeat (first | refine kA_ ?_ _ | refine kB_ ?_ | refine kC_ ?_ _)); refine blk_far ?_ (by have h_ := Kd.R_ne HO_172001.out BK162.out (by decide); intro e_; exact h_ (by rw [e_]; rfl)) _; (with_reducible repeat (first | refine kA_ ?_ _ | refine kB_ ?_ | refine kC_ ?_ _)); exact BK162.out⟩, ⟨by (with_reducible repeat (first | refine kA_ ?_ _ | refine kB_ ?_ | refine kC_ ?_ _)); refine blk_far ?_ (by have h_ := Kd.R_ne HO_172001.out BK171.out (by decide); intro e_; exact h_ (by rw [e_]; rfl)) _; (with_reducible repeat (first | refine kA_ ?_ _ | refine kB_ ?_ | refine kC_ ?_ _)); exact BK171.out⟩, ⟨by repeat (first | (with_reducible first | exact HB.out | apply bA_ | apply bB_ | apply bC_ | refine bD_ ?_ GB38.out | refine bD_ ?_ GE162.out | refine bD_ ?_ GE171.out) | exact HB.out)⟩⟩
          ·rw [if_neg c34] at H
           have c34b0 := oD_ c34
           clear c34
           simp only [Option.some.injEq, Prod.mk.injEq] at H
           obtain ⟨rfl, rfl, rfl⟩ := H
           have hnb41 := NB171_162.out
           have hnc41 := NB162_171.out
           obtain ⟨hcz42_0, hcz42_1, hfz42_0, hfz42_1⟩ := c2_ BK171
           obtain ⟨Ao43, co43, eo43⟩ := Kd.R_slice HO_172000.out
           subst eo43
           obtain ⟨hcz44_0, hcz44_1, hfz44_0, hfz44_1⟩ := c2_ BK162
           obtain ⟨Ao45, co45, eo45⟩ := Kd.R_slice HO_172001.out
           subst eo45
           go_wp2
           refine bodyPost_ret (results_ct rfl _ _ gb162 25 #[.slice Ao43 x172000_3.length co43, .slice Ao45 x172001_3.length co45] (0, 0) _ rfl qp_ Try.underlying25 rfl (by kernel_rfl)) rfl ?_
           exact ⟨_, _, qb_, (rw_ (fa_ HO_172000 BK162)), (rw_ (fa_ HO_172001 BK162)), hB_⟩
       ·rw [if_neg c27] at H
        have c27b0 : decide (1 < a1) = false := oD_ c27
        clear c27
        simp only [Option.some.injEq, Prod.mk.injEq] at H
        obtain ⟨rfl, rfl, rfl⟩ := H
        have hnb46 := NB171_162.out
        have hnc46 := NB162_171.out
        obtain ⟨hcz47_0, hcz47_1, hfz47_0, hfz47_1⟩ := c2_ BK171
        obtain ⟨Ao48, co48, eo48⟩ := Kd.R_slice HO_172000.out
        subst eo48
        obtain ⟨hcz49_0, hcz49_1, hfz49_0, hfz49_1⟩ := c2_ BK162
        obtain ⟨Ao50, co50, eo50⟩ := Kd.R_slice HO_172001.out
        subst eo50
        go_wp2
        refine bodyPost_ret (results_ct rfl _ _ gb162 25 #[.slice Ao48 x172000_2.length co48, .slice Ao50 x172001_2.length co50] (0, 0) _ rfl qp_ Try.underlying25 rfl (by kernel_rfl)) rfl ?_
        exact ⟨_, _, qb_, (rw_ (fa_ HO_172000 BK162)), (rw_ (fa_ HO_172001 BK162)), hB_⟩
end Go.Proofs.Ytcggfjpnfodbaaa.A
end
section
namespace Go.Proofs.Ytcggfjpnfodbaaa.A
open Go.RowKit Go.Proofs.YtcggfjpnfodbaaaW.PrintWords Go.Proofs.YtcggfjpnfodbaaaW.PrintLast Go.Proofs.YtcggfjpnfodbaaaW.PrintMore
attribute [local go_sem] max2_int min2_int max_two min_two max_three min_three max_four min_four
set_option linter.unusedVariables false
set_option linter.unusedSimpArgs false
def Z48.l0 : Nat → Int → Int → List Int → Int → Int → Option (List Int × List Int × Int × Int)
 | 0, _, _, _, _, _ => none
 | k + 1, x5, x6, x1000, x1001, x1002 => if x6 < 8 then ((Z47.f k x1000 x1001 x1002 x5).bind fun bt187 => ((Z47.f k x1000 bt187.2.1 bt187.2.2 x5).bind fun bt192 => ((Z31.f k bt187.1 bt192.1).bind fun t198 => (if t198 = true then (some (bt187.1, bt192.1, bt192.2.1, bt192.2.2)) else (Z48.l0 k x5 (wrap64 (x6 + 1)) x1000 bt192.2.1 bt192.2.2))))) else ((Z55.f k x5 1).bind fun bt179 => (some (bt179.1, bt179.2.1, x1001, x1002)))
def Z48.f (k : Nat) (s0_0 : List Int) (s0_1 : Int) (s0_2 : Int) (a1 : Int) : Option (List Int × List Int × Int × Int) := (Z39.f s0_0 s0_1 s0_2 a1).bind fun bt176 => (Z48.l0 k (wrap64 (1 + bt176.1)) 0 s0_0 bt176.2.1 bt176.2.2)
theorem Z48.mono_l : ∀ k, (∀ y0 y1 y2 y3 y4, LeO (Z48.l0 k y0 y1 y2 y3 y4) (Z48.l0 (k + 1) y0 y1 y2 y3 y4))
 | 0 => fun _ _ _ _ _ r h => by simp [Z48.l0] at h
 | k + 1 => by
  have ih0 := Z48.mono_l k
  ·intro y0 y1 y2 y3 y4
   unfold Z48.l0
   repeat' first|exact ih0 _ _ _ _ _|exact Z55.mono _ _ _|exact Z31.mono _ _ _|exact Z47.mono _ _ _ _ _|exact lo_|refine LeO.ite ?_ ?_|refine LeO.bind ?_ (fun _ => ?_)
theorem Z48.mono : ∀ a0 a1 a2 a3 k, LeO (Z48.f k a0 a1 a2 a3) (Z48.f (k + 1) a0 a1 a2 a3) := by
 intro a0 a1 a2 a3 k
 have ih0 := Z48.mono_l k
 unfold Z48.f
 repeat' first|exact ih0 _ _ _ _ _|exact Z55.mono _ _ _|exact Z31.mono _ _ _|exact Z47.mono _ _ _ _ _|exact lo_|refine LeO.ite ?_ ?_|refine LeO.bind ?_ (fun _ => ?_)
set_option maxHeartbeats 8000000 in
set_option maxRecDepth 100000 in
theorem Z48.calls (k : Nat) (g : Nat) (s0_0 : List Int) (s0_1 : Int) (s0_2 : Int) (a1 : Int) (r1 : List Int) (r2 : List Int) (r3 : Int) (r4 : Int) (w0 w : World) (hI : IsS99 w0 w g s0_0 s0_1 s0_2) (hB : Below w0.heap.size w0 w) (h : Z48.f k s0_0 s0_1 s0_2 a1 = some (r1, r2, r3, r4)) :
  Calls Try.prog 57 #[.pointer (some ⟨g, 0, none⟩), .int .i64 a1] w fun e w' => ∃ v0_ v1_ : Value, e = .returned (.agg #[v0_, v1_]) ∧ Kd.R (Kd.int .i64) 3 w' w.heap.size (fun k_ => some k_ ≠ (v1_ : Value).ownBlock) v0_ r1 ∧ Kd.R (Kd.int .i64) 3 w' w.heap.size (fun k_ => some k_ ≠ (v0_ : Value).ownBlock) v1_ r2 ∧ IsS99 w0 w' g s0_0 r3 r4 ∧ Below w0.heap.size w0 w' ∧ KeepBut w w' g none := by
 have hu25 := Try.underlying25
 have HI0 := A_ hI
 have HK := A_ (KeepBut.refl w g none)
 have HL := A_ hB.size
 clear hI
 have HW0 := A_ hB.size
 have HB := A_ hB
 clear hB
 have H := h
 unfold Z48.f at H
 clear h
 obtain ⟨⟨t176, t177, t178⟩, A3, H⟩ := bi_ H
 try dsimp only at H
 have H' := A_ H
 clear H
 go_enter Try.func57, Try.ntmps57
 go_wp2_with (first | ((with_reducible refine gB_ (N := 4) rfl ?_); refine bx_ 4 #[.slice none 0 0, .slice none 0 0] 25 ?_; intro gb175 hg w4 hbox hb; replace HB := b2_ hb; have BK175 := A_ hbox; have GW175 := A_ ((gx_ hg (keep_size (w := w) (g := g) (row := none) hK_) : w.heap.size ≤ gb175)); have GE175 := A_ ((Nat.le_trans HW0.out (gx_ hg (keep_size (w := w) (g := g) (row := none) hK_) : w.heap.size ≤ gb175) : w0.heap.size ≤ gb175)); replace HK := A_ (KeepBut.trans hK_ (KeepBut.of_below hb g none) (.inl rfl)); have NB0_175 := A_ ((gn_ hg (IsS99.lt (show IsS99 w0 _ g s0_0 s0_1 s0_2 from hI_IsS99_HI0)) : g ≠ gb175)); have NB175_0 := A_ ((gp_ hg (IsS99.lt (show IsS99 w0 _ g s0_0 s0_1 s0_2 from hI_IsS99_HI0)) : gb175 ≠ g)); replace HI0 := A_ (IsS99.below hI_IsS99_HI0 hb); clear hb hbox hg) | ((with_reducible refine gA_ (f := 94) rfl ?_); refine gL_ (some 12) Try.func94 #[.pointer (some ⟨g, 0, none⟩), .int .i64 a1] rfl qa_ ?_; (with_reducible refine (Z39.calls g s0_0 s0_1 s0_2 a1 t176 t177 t178 w0 _ ?side1 ?side2 A3.out).mono ?_); (case side1 => repeat (first | (with_reducible first | exact HI0.out | apply IsS99.alloc | apply IsS99.drewN | apply IsS99.drew | apply IsS99.set_1 | apply IsS99.set_2 | refine IsS99.far ?_ NB0_175.out _) | exact HI0.out)); (case side2 => repeat (first | (with_reducible first | exact HB.out | apply bA_ | apply bB_ | apply bC_ | refine bD_ ?_ (IsS99.ge HI0.out) | refine bD_ ?_ GE175.out) | exact HB.out)); rintro e w5 ⟨rfl, hi, hb, hk⟩; refine ⟨_, rfl, ?_⟩; replace BK175 := A_ (KeepBut.blk hk (kk_ BK175) NB175_0.out (by simp)); replace HK := A_ (KeepBut.trans hK_ hk (.inl rfl)); replace HB := A_ hb; replace HI0 := A_ hi; clear hb hk hi))
 go_loopg [6] k (fun kq v6 w' => ∃ (x6_1 : Int) (x1001_1 : Int) (x1002_1 : Int), v6 = .int .i64 x6_1 ∧ Aside0 (Z48.l0 kq (wrap64 (1 + t176)) x6_1 s0_0 x1001_1 x1002_1 = some (r1, r2, r3, r4)) ∧ Aside0 (kq ≤ k) ∧ Aside0 (w'.heap[gb175]? = some (.cells #[(.slice none 0 0), (.slice none 0 0)] 25 (0, 0))) ∧ Aside0 (IsS99 w0 w' g s0_0 x1001_1 x1002_1) ∧ Aside0 (KeepBut w w' g none) ∧ Aside0 (Below w0.heap.size w0 w'))
 case atStart => exact ⟨(0), (t177), (t178), qc_, H', ⟨nA_ _⟩, ⟨(kk_ BK175)⟩, ⟨hI_IsS99_HI0⟩, ⟨hK_⟩, ⟨hBI_⟩⟩
 case round =>
  clear H'
  obtain ⟨x6_1, x1001_1, x1002_1, rfl, HA, HK1, BK175, HI0, HK, HB⟩ := hrel
  cases gk with
  | zero => exact absurd HA.out (by simp [Z48.l0])
  | succ k1 =>
   have H := HA.out
   clear HA
   simp only [Z48.l0] at H
   by_cases c6 : x6_1 < 8
   ·rw [if_pos c6] at H
    have c6b0 := oC_ c6
    clear c6
    obtain ⟨⟨t187, t190, t191⟩, A7, H⟩ := bi_ H
    try dsimp only at H
    obtain ⟨⟨t192, t195, t196⟩, A8, H⟩ := bi_ H
    try dsimp only at H
    obtain ⟨t198, A9, H⟩ := bi_ H
    by_cases c10 : t198 = true
    ·subst c10
     rw [if_pos rfl] at H
     simp only [Option.some.injEq, Prod.mk.injEq] at H
     obtain ⟨rfl, rfl, rfl, rfl⟩ := H
     go_wp2_with (first | ((with_reducible refine gA_ (f := 95) rfl ?_); refine gL_ (some 20) Try.func95 #[.pointer (some ⟨g, 0, none⟩), .int .i64 (wrap64 (1 + t176))] rfl qa_ ?_; (with_reducible refine (Z47.calls k1 g s0_0 x1001_1 x1002_1 (wrap64 (1 + t176)) t187 t190 t191 w0 _ ?side1 ?side2 A7.out).mono ?_); (case side1 => repeat (first | (with_reducible first | exact HI0.out | apply IsS99.alloc | apply IsS99.drewN | apply IsS99.drew | apply IsS99.set_1 | apply IsS99.set_2 | refine IsS99.far ?_ NB0_175.out _) | exact HI0.out)); (case side2 => repeat (first | (with_reducible first | exact HB.out | apply bA_ | apply bB_ | apply bC_ | refine bD_ ?_ (IsS99.ge HI0.out) | refine bD_ ?_ GE175.out) | exact HB.out)); rintro e w11 ⟨v188, rfl, ho0, hi, hb, hk⟩; refine ⟨_, rfl, ?_⟩; replace BK175 := A_ (KeepBut.blk hk (kk_ BK175) NB175_0.out (by simp)); have HO189 := A_ (rE_ ho0 (keep_size (w := w) (g := g) (row := none) hK_)); replace HK := A_ (KeepBut.trans hK_ hk (.inl rfl)); replace HB := A_ hb; replace HI0 := A_ hi; clear hb hk hi ho0) | ((with_reducible refine gA_ (f := 95) rfl ?_); refine gL_ (some 23) Try.func95 #[.pointer (some ⟨g, 0, none⟩), .int .i64 (wrap64 (1 + t176))] rfl qa_ ?_; (with_reducible refine (Z47.calls k1 g s0_0 t190 t191 (wrap64 (1 + t176)) t192 t195 t196 w0 _ ?side1 ?side2 A8.out).mono ?_); (case side1 => repeat (first | (with_reducible first | exact HI0.out | apply IsS99.alloc | apply IsS99.drewN | apply IsS99.drew | apply IsS99.set_1 | apply IsS99.set_2 | refine IsS99.far ?_ NB0_175.out _) | exact HI0.out)); (case side2 => repeat (first | (with_reducible first | exact HB.out | apply bA_ | apply bB_ | apply bC_ | refine bD_ ?_ (IsS99.ge HI0.out) | refine bD_ ?_ GE175.out) | exact HB.out)); rintro e w12 ⟨v193, rfl, ho0, hi, hb, hk⟩; refine ⟨_, rfl, ?_⟩; replace BK175 := A_ (KeepBut.blk hk (kk_ BK175) NB175_0.out (by simp)); have HO194 := A_ (rE_ (Kd.R_new' ho0 (Kd.R_lt (rr_ HO189))) (keep_size (w := w) (g := g) (row := none) hK_)); replace HO189 := A_ (Kd.R_mono (Kd.R_told (Kd.R_oldK (IsS99.apart (show IsS99 w0 _ g s0_0 t190 t191 from hI_IsS99_HI0) (rr_ HO189) (by decide)) hk) (Kd.R_base ho0)) (fun _ h_ => h_.1)); replace HK := A_ (KeepBut.trans hK_ hk (.inl rfl)); replace HB := A_ hb; replace HI0 := A_ hi; clear hb hk hi ho0; obtain ⟨Ao13, co13, eo13⟩ := Kd.R_slice HO194.out; subst eo13; obtain ⟨Ao14, co14, eo14⟩ := Kd.R_slice HO189.out; subst eo14) | ((with_reducible refine gB_ (N := 7) rfl ?_); refine bx_ 7 #[.slice none 0 0, .slice none 0 0] 25 ?_; intro gb197 hg w15 hbox hb; replace HO189 := rb_ HO189 hb; replace HO194 := rb_ HO194 hb; replace HB := b2_ hb; have BK197 := A_ hbox; have GW197 := A_ ((gx_ hg (keep_size (w := w) (g := g) (row := none) hK_) : w.heap.size ≤ gb197)); have GE197 := A_ ((Nat.le_trans HW0.out (gx_ hg (keep_size (w := w) (g := g) (row := none) hK_) : w.heap.size ≤ gb197) : w0.heap.size ≤ gb197)); replace HK := A_ (KeepBut.trans hK_ (KeepBut.of_below hb g none) (.inl rfl)); have NB175_197 := gN_ BK175 hg; have NB197_175 := gP_ BK175 hg; replace BK175 := bb_ BK175 hb; have NB0_197 := A_ ((gn_ hg (IsS99.lt (show IsS99 w0 _ g s0_0 t195 t196 from hI_IsS99_HI0)) : g ≠ gb197)); have NB197_0 := A_ ((gp_ hg (IsS99.lt (show IsS99 w0 _ g s0_0 t195 t196 from hI_IsS99_HI0)) : gb197 ≠ g)); replace HI0 := A_ (IsS99.below hI_IsS99_HI0 hb); clear hb hbox hg; have hnb16 := NB197_175.out; have hnc16 := NB175_197.out; have hnb17 := NB197_0.out; have hnc17 := NB0_197.out; obtain ⟨hcz18_0, hcz18_1, hfz18_0, hfz18_1⟩ := c2_ BK197) | ((with_reducible refine gA_ (f := 80) rfl ?_); refine gL_ (some 26) Try.func80 #[.agg #[.slice Ao14 t187.length co14, .slice Ao13 t192.length co13]] rfl qa_ ?_; (with_reducible refine (Z31.calls k1 _ _ t187 _ _ t192 true _ ?side1 ?side2 ?side3 ?side4 A9.out).mono ?_); (case side1 => refine (Kd.R_reads' (e := 3) (base := w.heap.size) (ok := fun k_ => (True ∧ some k_ ≠ (.slice Ao13 t192.length co13 : Value).ownBlock)) (n := t187.length) (c := co14) ?_).2.2; exact (rw_ (fa_ HO189 BK197))); (case side2 => exact (Kd.R_reads' HO189.out).2.1); (case side3 => refine (Kd.R_reads' (e := 3) (base := w.heap.size) (ok := fun k_ => (True ∧ some k_ ≠ (.slice Ao14 t187.length co14 : Value).ownBlock)) (n := t192.length) (c := co13) ?_).2.2; exact (rw_ (fa_ HO194 BK197))); (case side4 => exact (Kd.R_reads' HO194.out).2.1); rintro e w19 ⟨rfl, hb⟩; refine ⟨_, rfl, ?_⟩; replace HO189 := A_ (rD_ (rw_ (fa_ HO189 BK197)) hb); replace HO194 := A_ (rD_ (rw_ (fa_ HO194 BK197)) hb); replace BK175 := A_ (kE_ (g := gb175) (o := .cells #[.slice none 0 0, .slice none 0 0] 25 (0, 0)) (by (with_reducible repeat (first | refine kA_ ?_ _ | refine kB_ ?_ | refine kC_ ?_ _)); refine blk_far ?_ NB175_197.out _; (with_reducible repeat (first | refine kA_ ?_ _ | refine kB_ ?_ | refine kC_ ?_ _)); refine blk_far ?_ NB175_197.out _; (with_reducible repeat (first | refine kA_ ?_ _ | refine kB_ ?_ | refine kC_ ?_ _)); exact BK175.out) hb); replace BK197 := A_ (kE_ (g := gb197) (o := .cells #[.slice Ao14 t187.length co14, .slice Ao13 t192.length co13] 25 (0, 0)) qp_ hb); replace HK := A_ (KeepBut.trans hK_ (KeepBut.of_below hb g none) (.inl rfl)); replace HB := b2_ hb; replace HI0 := A_ (IsS99.below (show IsS99 w0 ((w15.setCell ⟨gb197, 0, none⟩ (.slice Ao14 t187.length co14)).setCell ⟨gb197, 1, none⟩ (.slice Ao13 t192.length co13)) g s0_0 t195 t196 from hI_IsS99_HI0) hb); clear hb; obtain ⟨hcz20_0, hcz20_1, hfz20_0, hfz20_1⟩ := c2_ BK197; have hnb21 := NB175_0.out; have hnc21 := NB0_175.out; obtain ⟨hcz22_0, hcz22_1, hfz22_0, hfz22_1⟩ := c2_ BK175))
     refine bodyPost_ret (results_cell_row rfl _ _ gb175 25 #[.slice Ao14 t187.length co14, .slice Ao13 t192.length co13] (0, 0) _ rfl qp_ Try.underlying25 rfl (by kernel_rfl)) rfl ?_
     exact ⟨_, _, qb_, (rw_ (Kd.R_mono (fa_ HO189 BK175) (fun _ hk => hk.2))), (rw_ (Kd.R_mono (fa_ HO194 BK175) (fun _ hk => hk.2))), hI_IsS99_HI0, hBI_, hK_⟩
    ·replace c10 := Bool.eq_false_iff.mpr c10
     subst c10
     have H1 : (Z48.l0 k1 (wrap64 (1 + t176)) (wrap64 (x6_1 + 1)) s0_0 t195 t196) = some (r1, r2, r3, r4) := by rw [if_neg (show ¬ (false = true) by decide)] at H; exact H
     clear H
     have H := H1
     clear H1
     have H' := A_ H
     clear H
     go_wp2_with (first | ((with_reducible refine gA_ (f := 95) rfl ?_); refine gL_ (some 20) Try.func95 #[.pointer (some ⟨g, 0, none⟩), .int .i64 (wrap64 (1 + t176))] rfl qa_ ?_; (with_reducible refine (Z47.calls k1 g s0_0 x1001_1 x1002_1 (wrap64 (1 + t176)) t187 t190 t191 w0 _ ?side1 ?side2 A7.out).mono ?_); (case side1 => repeat (first | (with_reducible first | exact HI0.out | apply IsS99.alloc | apply IsS99.drewN | apply IsS99.drew | apply IsS99.set_1 | apply IsS99.set_2 | refine IsS99.far ?_ NB0_175.out _) | exact HI0.out)); (case side2 => repeat (first | (with_reducible first | exact HB.out | apply bA_ | apply bB_ | apply bC_ | refine bD_ ?_ (IsS99.ge HI0.out) | refine bD_ ?_ GE175.out) | exact HB.out)); rintro e w23 ⟨v188, rfl, ho0, hi, hb, hk⟩; refine ⟨_, rfl, ?_⟩; replace BK175 := A_ (KeepBut.blk hk (kk_ BK175) NB175_0.out (by simp)); have HO189 := A_ (rE_ ho0 (keep_size (w := w) (g := g) (row := none) hK_)); replace HK := A_ (KeepBut.trans hK_ hk (.inl rfl)); replace HB := A_ hb; replace HI0 := A_ hi; clear hb hk hi ho0) | ((with_reducible refine gA_ (f := 95) rfl ?_); refine gL_ (some 23) Try.func95 #[.pointer (some ⟨g, 0, none⟩), .int .i64 (wrap64 (1 + t176))] rfl qa_ ?_; (with_reducible refine (Z47.calls k1 g s0_0 t190 t191 (wrap64 (1 + t176)) t192 t195 t196 w0 _ ?side1 ?side2 A8.out).mono ?_); (case side1 => repeat (first | (with_reducible first | exact HI0.out | apply IsS99.alloc | apply IsS99.drewN | apply IsS99.drew | apply IsS99.set_1 | apply IsS99.set_2 | refine IsS99.far ?_ NB0_175.out _) | exact HI0.out)); (case side2 => repeat (first | (with_reducible first | exact HB.out | apply bA_ | apply bB_ | apply bC_ | refine bD_ ?_ (IsS99.ge HI0.out) | refine bD_ ?_ GE175.out) | exact HB.out)); rintro e w24 ⟨v193, rfl, ho0, hi, hb, hk⟩; refine ⟨_, rfl, ?_⟩; replace BK175 := A_ (KeepBut.blk hk (kk_ BK175) NB175_0.out (by simp)); have HO194 := A_ (rE_ (Kd.R_new' ho0 (Kd.R_lt (rr_ HO189))) (keep_size (w := w) (g := g) (row := none) hK_)); replace HO189 := A_ (Kd.R_mono (Kd.R_told (Kd.R_oldK (IsS99.apart (show IsS99 w0 _ g s0_0 t190 t191 from hI_IsS99_HI0) (rr_ HO189) (by decide)) hk) (Kd.R_base ho0)) (fun _ h_ => h_.1)); replace HK := A_ (KeepBut.trans hK_ hk (.inl rfl)); replace HB := A_ hb; replace HI0 := A_ hi; clear hb hk hi ho0; obtain ⟨Ao25, co25, eo25⟩ := Kd.R_slice HO194.out; subst eo25; obtain ⟨Ao26, co26, eo26⟩ := Kd.R_slice HO189.out; subst eo26) | ((with_reducible refine gB_ (N := 7) rfl ?_); refine bx_ 7 #[.slice none 0 0, .slice none 0 0] 25 ?_; intro gb197 hg w27 hbox hb; replace HO189 := rb_ HO189 hb; replace HO194 := rb_ HO194 hb; replace HB := b2_ hb; have BK197 := A_ hbox; have GW197 := A_ ((gx_ hg (keep_size (w := w) (g := g) (row := none) hK_) : w.heap.size ≤ gb197)); have GE197 := A_ ((Nat.le_trans HW0.out (gx_ hg (keep_size (w := w) (g := g) (row := none) hK_) : w.heap.size ≤ gb197) : w0.heap.size ≤ gb197)); replace HK := A_ (KeepBut.trans hK_ (KeepBut.of_below hb g none) (.inl rfl)); have NB175_197 := gN_ BK175 hg; have NB197_175 := gP_ BK175 hg; replace BK175 := bb_ BK175 hb; have NB0_197 := A_ ((gn_ hg (IsS99.lt (show IsS99 w0 _ g s0_0 t195 t196 from hI_IsS99_HI0)) : g ≠ gb197)); have NB197_0 := A_ ((gp_ hg (IsS99.lt (show IsS99 w0 _ g s0_0 t195 t196 from hI_IsS99_HI0)) : gb197 ≠ g)); replace HI0 := A_ (IsS99.below hI_IsS99_HI0 hb); clear hb hbox hg; have hnb28 := NB197_175.out; have hnc28 := NB175_197.out; have hnb29 := NB197_0.out; have hnc29 := NB0_197.out; obtain ⟨hcz30_0, hcz30_1, hfz30_0, hfz30_1⟩ := c2_ BK197) | ((with_reducible refine gA_ (f := 80) rfl ?_); refine gL_ (some 26) Try.func80 #[.agg #[.slice Ao26 t187.length co26, .slice Ao25 t192.length co25]] rfl qa_ ?_; (with_reducible refine (Z31.calls k1 _ _ t187 _ _ t192 false _ ?side1 ?side2 ?side3 ?side4 A9.out).mono ?_); (case side1 => refine (Kd.R_reads' (e := 3) (base := w.heap.size) (ok := fun k_ => (True ∧ some k_ ≠ (.slice Ao25 t192.length co25 : Value).ownBlock)) (n := t187.length) (c := co26) ?_).2.2; exact (rw_ (fa_ HO189 BK197))); (case side2 => exact (Kd.R_reads' HO189.out).2.1); (case side3 => refine (Kd.R_reads' (e := 3) (base := w.heap.size) (ok := fun k_ => (True ∧ some k_ ≠ (.slice Ao26 t187.length co26 : Value).ownBlock)) (n := t192.length) (c := co25) ?_).2.2; exact (rw_ (fa_ HO194 BK197))); (case side4 => exact (Kd.R_reads' HO194.out).2.1); rintro e w31 ⟨rfl, hb⟩; refine ⟨_, rfl, ?_⟩; replace HO189 := A_ (rD_ (rw_ (fa_ HO189 BK197)) hb); replace HO194 := A_ (rD_ (rw_ (fa_ HO194 BK197)) hb); replace BK175 := A_ (kE_ (g := gb175) (o := .cells #[.slice none 0 0, .slice none 0 0] 25 (0, 0)) (by (with_reducible repeat (first | refine kA_ ?_ _ | refine kB_ ?_ | refine kC_ ?_ _)); refine blk_far ?_ NB175_197.out _; (with_reducible repeat (first | refine kA_ ?_ _ | refine kB_ ?_ | refine kC_ ?_ _)); refine blk_far ?_ NB175_197.out _; (with_reducible repeat (first | refine kA_ ?_ _ | refine kB_ ?_ | refine kC_ ?_ _)); exact BK175.out) hb); replace BK197 := A_ (kE_ (g := gb197) (o := .cells #[.slice Ao26 t187.length co26, .slice Ao25 t192.length co25] 25 (0, 0)) qp_ hb); replace HK := A_ (KeepBut.trans hK_ (KeepBut.of_below hb g none) (.inl rfl)); replace HB := b2_ hb; replace HI0 := A_ (IsS99.below (show IsS99 w0 ((w27.setCell ⟨gb197, 0, none⟩ (.slice Ao26 t187.length co26)).setCell ⟨gb197, 1, none⟩ (.slice Ao25 t192.length co25)) g s0_0 t195 t196 from hI_IsS99_HI0) hb); clear hb))
     go_roundg k1
     case measure => have := HK1.out; omega
     case rel => exact ⟨(wrap64 (x6_1 + 1)), (t195), (t196), qc_, H', ⟨by have := HK1.out; omega⟩, ⟨(kk_ BK175)⟩, ⟨hI_IsS99_HI0⟩, ⟨hK_⟩, ⟨hBI_⟩⟩
   ·rw [if_neg c6] at H
    have c6b0 := oD_ c6
    clear c6
    obtain ⟨⟨t179, t182, t185⟩, A32, H⟩ := bi_ H
    try dsimp only at H
    simp only [Option.some.injEq, Prod.mk.injEq] at H
    obtain ⟨rfl, rfl, rfl, rfl⟩ := H
    go_wp2_with (first | ((with_reducible refine gA_ (f := 96) rfl ?_); refine gL_ (some 30) Try.func96 #[.int .i64 (wrap64 (1 + t176)), .int .i64 1] rfl qa_ ?_; (with_reducible refine (Z55.calls k1 (wrap64 (1 + t176)) 1 t179 t182 t185 _ A32.out).mono ?_); rintro e w33 ⟨v180, v183, rfl, ho0, ho1, hb⟩; refine ⟨_, rfl, ?_⟩; have HO181 := A_ (rE_ ho0 (keep_size (w := w) (g := g) (row := none) hK_)); have HO184 := A_ (rE_ ho1 (keep_size (w := w) (g := g) (row := none) hK_)); replace BK175 := bb_ BK175 hb; replace HK := A_ (KeepBut.trans hK_ (KeepBut.of_below hb g none) (.inl rfl)); replace HB := b2_ hb; replace HI0 := A_ (IsS99.below hI_IsS99_HI0 hb); clear hb ho0 ho1) | ((with_reducible refine gB_ (N := 8) rfl ?_); refine bx_ 8 #[.slice none 0 0, .slice none 0 0] 25 ?_; intro gb186 hg w34 hbox hb; replace HO181 := rb_ HO181 hb; replace HO184 := rb_ HO184 hb; replace HB := b2_ hb; have BK186 := A_ hbox; have GW186 := A_ ((gx_ hg (keep_size (w := w) (g := g) (row := none) hK_) : w.heap.size ≤ gb186)); have GE186 := A_ ((Nat.le_trans HW0.out (gx_ hg (keep_size (w := w) (g := g) (row := none) hK_) : w.heap.size ≤ gb186) : w0.heap.size ≤ gb186)); replace HK := A_ (KeepBut.trans hK_ (KeepBut.of_below hb g none) (.inl rfl)); have NB175_186 := gN_ BK175 hg; have NB186_175 := gP_ BK175 hg; replace BK175 := bb_ BK175 hb; have NB0_186 := A_ ((gn_ hg (IsS99.lt (show IsS99 w0 _ g s0_0 x1001_1 x1002_1 from hI_IsS99_HI0)) : g ≠ gb186)); have NB186_0 := A_ ((gp_ hg (IsS99.lt (show IsS99 w0 _ g s0_0 x1001_1 x1002_1 from hI_IsS99_HI0)) : gb186 ≠ g)); replace HI0 := A_ (IsS99.below hI_IsS99_HI0 hb); clear hb hbox hg; obtain ⟨Ao35, co35, eo35⟩ := Kd.R_slice HO181.out; subst eo35; have hnb36 := NB186_175.out; have hnc36 := NB175_186.out; have hnb37 := NB186_0.out; have hnc37 := NB0_186.out; obtain ⟨hcz38_0, hcz38_1, hfz38_0, hfz38_1⟩ := c2_ BK186; obtain ⟨Ao39, co39, eo39⟩ := Kd.R_slice HO184.out; subst eo39; have hnb40 := NB175_0.out; have hnc40 := NB0_175.out; obtain ⟨hcz41_0, hcz41_1, hfz41_0, hfz41_1⟩ := c2_ BK175))
    refine bodyPost_ret (results_cell_row rfl _ _ gb175 25 #[.slice Ao35 t179.length co35, .slice Ao39 t182.length co39] (0, 0) _ rfl (by (with_reducible repeat (first | refine kA_ ?_ _ | refine kB_ ?_ | refine kC_ ?_ _)); refine blk_put (cs := #[.slice Ao35 t179.length co35, .slice none 0 0]) ?_ 1 _ rfl; (with_reducible repeat (first | refine kA_ ?_ _ | refine kB_ ?_ | refine kC_ ?_ _)); refine blk_put (cs := #[.slice none 0 0, .slice none 0 0]) ?_ 0 _ rfl; (with_reducible repeat (first | refine kA_ ?_ _ | refine kB_ ?_ | refine kC_ ?_ _)); refine blk_far ?_ NB175_186.out _; (with_reducible repeat (first | refine kA_ ?_ _ | refine kB_ ?_ | refine kC_ ?_ _)); refine blk_far ?_ NB175_186.out _; (with_reducible repeat (first | refine kA_ ?_ _ | refine kB_ ?_ | refine kC_ ?_ _)); exact BK175.out) Try.underlying25 rfl (by kernel_rfl)) rfl ?_
    exact ⟨_, _, qb_, (rw_ (Kd.R_mono (Kd.R_far (p := ⟨gb175, 1, none⟩) (Kd.R_far (p := ⟨gb175, 0, none⟩) (Kd.R_far (p := ⟨gb186, 1, none⟩) (Kd.R_far (p := ⟨gb186, 0, none⟩) (Kd.R_types (Kd.R_types HO181.out BK186.out (by decide)) BK175.out (by decide)) (fun _ hk => hk.1.2) (.slice Ao35 t179.length co35)) (fun _ hk => hk.1.2) (.slice Ao39 t182.length co39)) (fun _ hk => hk.2) (.slice Ao35 t179.length co35)) (fun _ hk => hk.2) (.slice Ao39 t182.length co39)) (fun _ hk => hk.1.1))), (rw_ (Kd.R_mono (Kd.R_far (p := ⟨gb175, 1, none⟩) (Kd.R_far (p := ⟨gb175, 0, none⟩) (Kd.R_far (p := ⟨gb186, 1, none⟩) (Kd.R_far (p := ⟨gb186, 0, none⟩) (Kd.R_types (Kd.R_types HO184.out BK186.out (by decide)) BK175.out (by decide)) (fun _ hk => hk.1.2) (.slice Ao35 t179.length co35)) (fun _ hk => hk.1.2) (.slice Ao39 t182.length co39)) (fun _ hk => hk.2) (.slice Ao35 t179.length co35)) (fun _ hk => hk.2) (.slice Ao39 t182.length co39)) (fun _ hk => hk.1.1))), hI_IsS99_HI0, hBI_, hK_⟩
def Z51.l0 : Nat → List Int → Int → Int → Option (List Int × Int × Int)
 | 0, _, _, _ => none
 | k + 1, x0, x3, x4 => if x4 < (x0.length : Int) then (if x4 < 4000 then (if 0 ≤ x4 then (Z51.l0 k x0 (Go.bits .and .i64 (wrap64 ((wrap64 ((wrap64 (x3 * 109)) + (wrap64 (rd x0 x4)))) + 7)) 1073741823) (wrap64 (x4 + 1))) else (none)) else (some (x0, 0, x3))) else (some (x0, 0, x3))
def Z51.f (k : Nat) (l0 : List Int) : Option (List Int × Int × Int) := Z51.l0 k l0 (wrap64 (2073 + (l0.length : Int))) 0
theorem Z51.mono_l : ∀ k, (∀ y0 y1 y2, LeO (Z51.l0 k y0 y1 y2) (Z51.l0 (k + 1) y0 y1 y2))
 | 0 => fun _ _ _ r h => by simp [Z51.l0] at h
 | k + 1 => by
  have ih0 := Z51.mono_l k
  ·intro y0 y1 y2
   unfold Z51.l0
   repeat' first|exact ih0 _ _ _|exact lo_|refine LeO.ite ?_ ?_|refine LeO.bind ?_ (fun _ => ?_)
theorem Z51.mono : ∀ a0 k, LeO (Z51.f k a0) (Z51.f (k + 1) a0) := by
 intro a0 k
 have ih0 := Z51.mono_l k
 unfold Z51.f
 repeat' first|exact ih0 _ _ _|exact lo_|refine LeO.ite ?_ ?_|refine LeO.bind ?_ (fun _ => ?_)
set_option maxHeartbeats 8000000 in
set_option maxRecDepth 100000 in
theorem Z51.callsW (k : Nat) (A0 : Option Addr) (c0 : Nat) (l0 : List Int) (r1 : List Int) (r2 : Int) (r3 : Int) (w0 w : World) (hB : Below w0.heap.size w0 w) (hr0 : Kd.C (Kd.int .u8) w0 A0 l0.length l0) (hc0 : l0.length ≤ c0) (h : Z51.f k l0 = some (r1, r2, r3)) :
  Calls Try.prog 58 #[.slice A0 l0.length c0] w fun e w' => ∃ g_ : Nat, e = .returned (.pointer (some ⟨g_, 0, none⟩)) ∧ IsS99 w0 w' g_ r1 r2 r3 ∧ Below w0.heap.size w0 w' ∧ Below w.heap.size w w' ∧ w.heap.size ≤ g_ := by
 have hu99 := Try.underlying99
 have HR0 := A_ hr0
 have HC0 := A_ hc0
 clear hr0 hc0
 have HBW := A_ (Below.refl w.heap.size w)
 have HW0 := A_ hB.size
 have HB := A_ hB
 clear hB
 have H := h
 unfold Z51.f at H
 clear h
 have H' := A_ H
 clear H
 go_enter Try.func58, Try.ntmps58
 go_wp2
 go_loopg [3, 4] k (fun kq v3 v4 w' => ∃ (x3_1 : Int) (x4_1 : Int), v3 = .int .i64 x3_1 ∧ v4 = .int .i64 x4_1 ∧ Aside0 (Z51.l0 kq l0 x3_1 x4_1 = some (r1, r2, r3)) ∧ Aside0 (kq ≤ k) ∧ Aside0 (Below w0.heap.size w0 w') ∧ Aside0 (Below w.heap.size w w'))
 case atStart => exact ⟨(wrap64 (2073 + (l0.length : Int))), (0), qc_, qc_, H', ⟨nA_ _⟩, ⟨hB_⟩, ⟨by repeat (first | (with_reducible first | exact HBW.out | apply bA_ | apply bB_ | apply bC_) | exact HBW.out)⟩⟩
 case round =>
  clear H'
  obtain ⟨x3_1, x4_1, rfl, rfl, HA, HK1, HB, HBW⟩ := hrel
  cases gk with
  | zero => exact absurd HA.out (by simp [Z51.l0])
  | succ k1 =>
   have H := HA.out
   clear HA
   simp only [Z51.l0] at H
   by_cases c2 : x4_1 < (l0.length : Int)
   ·rw [if_pos c2] at H
    have c2b0 := oC_ c2
    clear c2
    by_cases c3 : x4_1 < 4000
    ·rw [if_pos c3] at H
     have c3b0 := oC_ c3
     clear c3
     have c4 := cp_ H
     replace H := ca_ H
     have c4b0 := oC_ c4
     clear c4
     have H' := A_ H
     clear H
     have p199 : 0 ≤ (x4_1 : Int) := oB_ qe_
     have q199 : x4_1 < (l0.length : Int) := oB_ qe_
     obtain ⟨ad199, e199, hx199_0⟩ := Kd.at_int HR0.out x4_1 p199 q199
     cases e199
     replace hx199_0 := pw_cell_below HB.out hx199_0
     replace p199 := eq_true p199
     replace q199 := eq_true q199
     go_wp2
     go_roundg k1
     case measure => have := HK1.out; omega
     case rel => exact ⟨(Go.bits .and .i64 (wrap64 ((wrap64 ((wrap64 (x3_1 * 109)) + (wrap64 (rd l0 x4_1)))) + 7)) 1073741823), (wrap64 (x4_1 + 1)), qc_, qc_, H', ⟨by have := HK1.out; omega⟩, ⟨hB_⟩, ⟨by repeat (first | (with_reducible first | exact HBW.out | apply bA_ | apply bB_ | apply bC_) | exact HBW.out)⟩⟩
    ·rw [if_neg c3] at H
     have c3b0 := oD_ c3
     clear c3
     simp only [Option.some.injEq, Prod.mk.injEq] at H
     obtain ⟨rfl, rfl, rfl⟩ := H
     go_wp2_with (first | ((with_reducible refine gB_ (N := 31) rfl ?_); refine bx_ 31 #[.slice A0 l0.length c0, .int .i64 0, .int .i64 x3_1] 99 ?_; intro gb200 hg w5 hbox hb; replace HB := b1_ hb; have BK200 := A_ hbox; have GW200 := A_ ((gx_ hg (bF_ (by repeat (first | (with_reducible first | exact HBW.out | apply bA_ | apply bB_ | apply bC_) | exact HBW.out))) : w.heap.size ≤ gb200)); have GE200 := A_ ((Nat.le_trans HW0.out (gx_ hg (bF_ (by repeat (first | (with_reducible first | exact HBW.out | apply bA_ | apply bB_ | apply bC_) | exact HBW.out))) : w.heap.size ≤ gb200) : w0.heap.size ≤ gb200)); replace HBW := A_ (bE_ HBW.out hb); clear hb hbox hg))
     go_ret
     exact ⟨_, rfl, (show IsS99 w0 _ gb200 l0 0 x3_1 from ⟨_, _, (kk_ BK200), GE200.out, HR0.out⟩), hB_, by repeat (first | (with_reducible first | exact HBW.out | apply bA_ | apply bB_ | apply bC_ | refine bD_ ?_ GW200.out) | exact HBW.out), GW200.out⟩
   ·rw [if_neg c2] at H
    have c2b0 := oD_ c2
    clear c2
    simp only [Option.some.injEq, Prod.mk.injEq] at H
    obtain ⟨rfl, rfl, rfl⟩ := H
    go_wp2_with (first | ((with_reducible refine gB_ (N := 31) rfl ?_); refine bx_ 31 #[.slice A0 l0.length c0, .int .i64 0, .int .i64 x3_1] 99 ?_; intro gb201 hg w6 hbox hb; replace HB := b1_ hb; have BK201 := A_ hbox; have GW201 := A_ ((gx_ hg (bF_ (by repeat (first | (with_reducible first | exact HBW.out | apply bA_ | apply bB_ | apply bC_) | exact HBW.out))) : w.heap.size ≤ gb201)); have GE201 := A_ ((Nat.le_trans HW0.out (gx_ hg (bF_ (by repeat (first | (with_reducible first | exact HBW.out | apply bA_ | apply bB_ | apply bC_) | exact HBW.out))) : w.heap.size ≤ gb201) : w0.heap.size ≤ gb201)); replace HBW := A_ (bE_ HBW.out hb); clear hb hbox hg))
    go_ret
    exact ⟨_, rfl, (show IsS99 w0 _ gb201 l0 0 x3_1 from ⟨_, _, (kk_ BK201), GE201.out, HR0.out⟩), hB_, by repeat (first | (with_reducible first | exact HBW.out | apply bA_ | apply bB_ | apply bC_ | refine bD_ ?_ GW201.out) | exact HBW.out), GW201.out⟩
theorem Z51.calls (k : Nat) (A0 : Option Addr) (c0 : Nat) (l0 : List Int) (r1 : List Int) (r2 : Int) (r3 : Int) (w0 w : World) (hB : Below w0.heap.size w0 w) (hr0 : Kd.C (Kd.int .u8) w0 A0 l0.length l0) (hc0 : l0.length ≤ c0) (h : Z51.f k l0 = some (r1, r2, r3)) :
  Calls Try.prog 58 #[.slice A0 l0.length c0] w fun e w' => ∃ g_ : Nat, e = .returned (.pointer (some ⟨g_, 0, none⟩)) ∧ IsS99 w0 w' g_ r1 r2 r3 ∧ Below w0.heap.size w0 w' ∧ Below w.heap.size w w' := by
 exact (Z51.callsW k A0 c0 l0 r1 r2 r3 w0 w hB hr0 hc0 h).mono fun e w' ⟨g, h1, h2, h3, h4, _⟩ => ⟨g, h1, h2, h3, h4⟩
def Z45.f (k : Nat) (l0 : List Int) : Option (List Int × List Int) := (Z51.f k l0).bind fun bt203 => ((Z48.f k bt203.1 bt203.2.1 bt203.2.2 4).bind fun bt207 => (some (bt207.1, bt207.2.1)))
theorem Z45.mono : ∀ a0 k, LeO (Z45.f k a0) (Z45.f (k + 1) a0) := by
 intro a0 k
 unfold Z45.f
 repeat' first|exact Z51.mono _ _|exact Z48.mono _ _ _ _ _|exact lo_|refine LeO.ite ?_ ?_|refine LeO.bind ?_ (fun _ => ?_)
set_option maxHeartbeats 8000000 in
set_option maxRecDepth 100000 in
theorem Z45.calls (k : Nat) (A0 : Option Addr) (c0 : Nat) (l0 : List Int) (r1 : List Int) (r2 : List Int) (w : World) (hr0 : Kd.C (Kd.int .u8) w A0 l0.length l0) (hc0 : l0.length ≤ c0) (h : Z45.f k l0 = some (r1, r2)) :
  Calls Try.prog 14 #[.slice A0 l0.length c0] w fun e w' => ∃ v0_ v1_ : Value, e = .returned (.agg #[v0_, v1_]) ∧ Kd.R (Kd.int .i64) 3 w' w.heap.size (fun k_ => some k_ ≠ (v1_ : Value).ownBlock) v0_ r1 ∧ Kd.R (Kd.int .i64) 3 w' w.heap.size (fun k_ => some k_ ≠ (v0_ : Value).ownBlock) v1_ r2 ∧ Below w.heap.size w w' := by
 have hu25 := Try.underlying25
 have HR0 := A_ hr0
 have HC0 := A_ hc0
 clear hr0 hc0
 have HB := A_ (Below.refl w.heap.size w)
 have H := h
 unfold Z45.f at H
 clear h
 obtain ⟨⟨t203, t204, t205⟩, A2, H⟩ := bi_ H
 try dsimp only at H
 obtain ⟨⟨t207, t210, t213, t214⟩, A3, H⟩ := bi_ H
 try dsimp only at H
 simp only [Option.some.injEq, Prod.mk.injEq] at H
 obtain ⟨rfl, rfl⟩ := H
 go_enter Try.func14, Try.ntmps14
 go_wp2_with (first | ((with_reducible refine gB_ (N := 2) rfl ?_); refine bx_ 2 #[.slice none 0 0, .slice none 0 0] 25 ?_; intro gb202 hg w4 hbox hb; have BK202 := A_ hbox; have GW202 := gw_ w hg; have GE202 := GW202; replace HB := b1_ hb; clear hb hbox hg) | ((with_reducible refine gA_ (f := 58) rfl ?_); refine gL_ (some 4) Try.func58 #[.slice A0 l0.length c0] rfl qa_ ?_; (with_reducible refine (Z51.calls k _ _ l0 t203 t204 t205 w _ ?side1 ?side2 ?side3 A2.out).mono ?_); (case side1 => repeat (first | (with_reducible first | exact HB.out | apply bA_ | apply bB_ | apply bC_ | refine bD_ ?_ GE202.out) | exact HB.out)); (case side2 => exact HR0.out); (case side3 => exact HC0.out); rintro e w5 ⟨g206, rfl, hi, hb, hb2⟩; refine ⟨_, rfl, ?_⟩; replace HB := A_ hb; have HI206 := A_ hi; have NB206_202 := A_ (IsS99.ne_blk hi (kE_ (kk_ BK202) hb2) (by decide)); have NB202_206 := A_ (Ne.symm (IsS99.ne_blk hi (kE_ (kk_ BK202) hb2) (by decide))); replace BK202 := bb_ BK202 hb2; clear hb hb2 hi) | ((with_reducible refine gA_ (f := 57) rfl ?_); refine gL_ (some 5) Try.func57 #[.pointer (some ⟨g206, 0, none⟩), .int .i64 4] rfl qa_ ?_; (with_reducible refine (Z48.calls k g206 t203 t204 t205 4 t207 t210 t213 t214 w _ ?side1 ?side2 A3.out).mono ?_); (case side1 => repeat (first | (with_reducible first | exact HI206.out | apply IsS99.alloc | apply IsS99.drewN | apply IsS99.drew | apply IsS99.set_1 | apply IsS99.set_2 | refine IsS99.far ?_ NB206_202.out _) | exact HI206.out)); (case side2 => repeat (first | (with_reducible first | exact HB.out | apply bA_ | apply bB_ | apply bC_ | refine bD_ ?_ (IsS99.ge HI206.out) | refine bD_ ?_ GE202.out) | exact HB.out)); rintro e w6 ⟨v208, v211, rfl, ho0, ho1, hi, hb, hk⟩; refine ⟨_, rfl, ?_⟩; replace BK202 := A_ (KeepBut.blk hk (kk_ BK202) NB202_206.out (by simp)); have HO209 := A_ (rE_ ho0 (bF_ hBI_)); have HO212 := A_ (rE_ ho1 (bF_ hBI_)); replace HB := A_ hb; replace HI206 := A_ hi; clear hb hk hi ho0 ho1; obtain ⟨Ao7, co7, eo7⟩ := Kd.R_slice HO209.out; subst eo7; have hnb8 := NB202_206.out; have hnc8 := NB206_202.out; obtain ⟨hcz9_0, hcz9_1, hfz9_0, hfz9_1⟩ := c2_ BK202; obtain ⟨Ao10, co10, eo10⟩ := Kd.R_slice HO212.out; subst eo10))
 refine bodyPost_ret (results_cell_row rfl _ _ gb202 25 #[.slice Ao7 t207.length co7, .slice Ao10 t210.length co10] (0, 0) _ rfl qp_ Try.underlying25 rfl (by kernel_rfl)) rfl ?_
 exact ⟨_, _, qb_, (rw_ (fa_ HO209 BK202)), (rw_ (fa_ HO212 BK202)), hBI_⟩
def Z49.l0 : Nat → List Int → List Bool → Int → Option Bool
 | 0, _, _, _ => none
 | k + 1, l, s, i => if i < (l.length : Int) then (if 0 ≤ i then (if rd l i < 0 then some false else (if rd l i ≥ (l.length : Int) then some false else (if rdOf false s (rd l i) = true then some false else Z49.l0 k l (s.set (rd l i).toNat true) (wrap64 (i + 1))))) else none) else some true
def Z49.f (k : Nat) (l0 : List Int) : Option Bool := if (l0.length : Int) > 24 then some false else Z49.l0 k l0 (List.replicate 24 false) 0
theorem Z49.mono_l : ∀ k, (∀ y0 y1 y2, LeO (Z49.l0 k y0 y1 y2) (Z49.l0 (k + 1) y0 y1 y2))
 | 0 => fun _ _ _ r h => by simp [Z49.l0] at h
 | k + 1 => by
  have ih0 := Z49.mono_l k
  ·intro y0 y1 y2
   unfold Z49.l0
   repeat' first|exact ih0 _ _ _|exact lo_|refine LeO.ite ?_ ?_|refine LeO.bind ?_ (fun _ => ?_)
theorem Z49.mono : ∀ a0 k, LeO (Z49.f k a0) (Z49.f (k + 1) a0) := by
 intro a0 k
 unfold Z49.f
 exact LeO.ite (LeO.refl _) (Z49.mono_l k _ _ _)
def Z24 : Array Value := #[Value.bool false, Value.bool false, Value.bool false, Value.bool false, Value.bool false, Value.bool false, Value.bool false, Value.bool false, Value.bool false, Value.bool false, Value.bool false, Value.bool false, Value.bool false, Value.bool false, Value.bool false, Value.bool false, Value.bool false, Value.bool false, Value.bool false, Value.bool false, Value.bool false, Value.bool false, Value.bool false, Value.bool false]
theorem row_same (w : World) (g : Nat) (t : TypeId) (cur : Array Value) (hg : w.heap[g]? = some (.cells cur t (0, 0))) : w.setRow g cur = w := by
 have hv : ∀ h, w.heap[g]'h = .cells cur t (0, 0) := fun h => (Array.getElem?_eq_some_iff.1 hg).2
 unfold World.setRow
 cases w with
 | mk heap tape drawn os output =>
  congr 1
  apply Array.ext
  ·simp
  ·intro k h1 h2
   simp only [Array.getElem_modify]
   split
   ·rename_i hk; subst hk; simp at hv; simp [hv h2]
   ·rfl
theorem wpList_val {P : Program} {ops : Array Oper} {rest : List Oper} {o : Oper} {a : Act} {Q : Exit → Act → World → Prop} {w : World} (hg : o.guard = none) (v : Value) (w1 : World) (hrun : (execOp a.eval o).run P w = .ok (.value v) w1) (h : wpList P ops Q rest (a.put o.dst v) w1) : wpList P ops Q (o :: rest) a w :=
 wpList_plain hg fun K hK => by unfold Oper.wp; rw [hrun]; exact hK _ _ h
theorem perm_start (w : World) : Kd.R Kd.bool 130 (w.alloc (.cells Z24 130)) w.heap.size (fun _ => True) (.slice (some ⟨w.heap.size, 0, none⟩) 24 24) (List.replicate 24 false) := by
 have h := World.ownsRow_lit (base := w.heap.size) (e := 130) (size := 1) w Z24 24 (nA_ _) (by unfold maxLen; omega) rfl
 exact Kd.R_of_own (xs := List.replicate 24 false) h (fun _ _ => trivial)
set_option maxHeartbeats 8000000 in
set_option maxRecDepth 100000 in
theorem Z49.calls (k : Nat) (A0 : Option Addr) (c0 : Nat) (l0 : List Int) (r : Bool) (w : World) (hr0 : Kd.C (Kd.int .i64) w A0 l0.length l0) (hc0 : l0.length ≤ c0) (h : Z49.f k l0 = some r) :
  Calls Try.prog 107 #[.slice A0 l0.length c0] w fun e w' => e = .returned (.bool r) ∧ Below w.heap.size w w' := by
 have HR0 := A_ hr0
 have HC0 := A_ hc0
 clear hr0 hc0
 have hst := perm_start w
 have HST := A_ hst
 clear hst
 have hb0 : Below w.heap.size w (w.alloc (.cells Z24 130)) := (Below.refl _ _).alloc (nA_ _) _
 have HB0 := A_ hb0
 clear hb0
 unfold Z49.f at h
 by_cases c2 : (l0.length : Int) > 24
 ·rw [if_pos c2] at h
  have c2b0 : decide (24 < (l0.length : Int)) = true := oC_ c2
  have c2b1 : decide (24 < l0.length) = true := oC_ (by omega)
  clear c2
  obtain rfl := Option.some.inj h
  go_enter Try.func107, Try.ntmps107
  go_upto_region 1 with (fail)
  refine wp_region_lit ?_
  refine wpList_val rfl (.agg Z24) w (by as_aux_lemma => kernel_rfl) ?_
  refine wpList_val rfl (.pointer (some ⟨w.heap.size, 0, none⟩)) (w.alloc (.cells Z24 130)) (by as_aux_lemma => kernel_rfl) ?_
  refine wpList_store_row rfl 130 (.tmp 3) (.tmp 6) rfl w.heap.size Z24 rfl rfl 130 Z24 (heap_alloc_new _ _) (by as_aux_lemma => kernel_rfl) rfl (by as_aux_lemma => kernel_rfl) ?_
  rw [row_same _ _ _ _ (heap_alloc_new _ _)]
  generalize w.alloc (.cells Z24 130) = wq at HB0 ⊢
  generalize Value.agg Z24 = ag
  go_wp2
  go_ret
  exact ⟨rfl, HB0.out⟩
 ·rw [if_neg c2] at h
  have hn : l0.length ≤ 24 := by omega
  have HN := A_ hn
  clear hn
  have c2b0 : decide (24 < (l0.length : Int)) = false := oD_ c2
  have c2b1 : decide (24 < l0.length) = false := oD_ (by omega)
  clear c2
  have H' := A_ h
  clear h
  go_enter Try.func107, Try.ntmps107
  go_upto_region 1 with (fail)
  refine wp_region_lit ?_
  refine wpList_val rfl (.agg Z24) w (by as_aux_lemma => kernel_rfl) ?_
  refine wpList_val rfl (.pointer (some ⟨w.heap.size, 0, none⟩)) (w.alloc (.cells Z24 130)) (by as_aux_lemma => kernel_rfl) ?_
  refine wpList_store_row rfl 130 (.tmp 3) (.tmp 6) rfl w.heap.size Z24 rfl rfl 130 Z24 (heap_alloc_new _ _) (by as_aux_lemma => kernel_rfl) rfl (by as_aux_lemma => kernel_rfl) ?_
  rw [row_same _ _ _ _ (heap_alloc_new _ _)]
  generalize w.alloc (.cells Z24 130) = wq at HB0 HST ⊢
  generalize Value.agg Z24 = ag
  go_wp2
  go_loopg [12] k (fun kq v12 w' => ∃ (s : List Bool) (i : Int), v12 = .int .i64 i ∧ Aside0 (Z49.l0 kq l0 s i = some r) ∧ Aside0 (kq ≤ k) ∧ Aside0 (s.length = 24) ∧ Aside0 (Kd.R Kd.bool 130 w' w.heap.size (fun _ => True) (.slice (some ⟨w.heap.size, 0, none⟩) 24 24) s) ∧ Aside0 (Below w.heap.size w w'))
  case atStart => exact ⟨List.replicate 24 false, 0, rfl, H', ⟨nA_ _⟩, ⟨rfl⟩, HST, HB0⟩
  case round =>
   clear H' HST HB0
   obtain ⟨s, i, rfl, HA, HK1, HS, HO, HB⟩ := hrel
   cases gk with
   | zero => exact absurd HA.out (by simp [Z49.l0])
   | succ k1 =>
    have H := HA.out
    clear HA
    simp only [Z49.l0] at H
    by_cases c3 : i < (l0.length : Int)
    ·rw [if_pos c3] at H
     have c4 := cp_ H
     replace H := ca_ H
     have c3b0 := oC_ c3
     have c4b0 := oC_ c4
     obtain ⟨ad, e0, hx⟩ := Kd.at_int HR0.out i c4 c3
     cases e0
     replace hx := (HB.out.cell (World.block_lt_of_cell? w _ hx)).trans hx
     replace c3 := eq_true c3
     replace c4 := eq_true c4
     by_cases c5 : rd l0 i < 0
     ·rw [if_pos c5] at H
      have c5b0 := oC_ c5
      clear c5
      obtain rfl := Option.some.inj H
      go_wp2
      go_ret
      exact ⟨rfl, HB.out⟩
     ·rw [if_neg c5] at H
      have c5b0 := oD_ c5
      by_cases c6 : rd l0 i ≥ (l0.length : Int)
      ·rw [if_pos c6] at H
       have c6b0 : decide ((l0.length : Int) ≤ rd l0 i) = true := oC_ c6
       clear c5 c6
       obtain rfl := Option.some.inj H
       go_wp2
       go_ret
       exact ⟨rfl, HB.out⟩
      ·rw [if_neg c6] at H
       have c6b0 : decide ((l0.length : Int) ≤ rd l0 i) = false := oD_ c6
       have p1 : 0 ≤ rd l0 i := by omega
       have p2 : rd l0 i < ((24 : Nat) : Int) := by have := HN.out; omega
       have p2' : rd l0 i < 24 := p2
       obtain ⟨hy, hz⟩ := Kd.R_celln false HO.out (rd l0 i) p1 p2
       have p1b : decide (0 ≤ rd l0 i) = true := oC_ p1
       have p2b : decide (rd l0 i < 24) = true := oC_ p2'
       clear c5 c6
       by_cases c7 : rdOf false s (rd l0 i) = true
       ·rw [if_pos c7] at H
        rw [c7] at hy
        clear c7
        obtain rfl := Option.some.inj H
        go_wp2
        go_ret
        exact ⟨rfl, HB.out⟩
       ·rw [if_neg c7] at H
        replace c7 := Bool.eq_false_iff.mpr c7
        rw [c7] at hy
        clear c7
        have H' := A_ H
        clear H
        have HP := Kd.R_putg HO.out (rd l0 i) true
        have HP' := A_ HP
        clear HP
        go_wp2
        go_roundg k1
        case measure => have := HK1.out; omega
        case rel => exact ⟨s.set (rd l0 i).toNat true, wrap64 (i + 1), rfl, H', ⟨by have := HK1.out; omega⟩, ⟨by rw [List.length_set]; exact HS.out⟩, ⟨HP'.out.1⟩, ⟨bD_ HB.out (nA_ _)⟩⟩
    ·rw [if_neg c3] at H
     have c3b0 := oD_ c3
     clear c3
     obtain rfl := Option.some.inj H
     go_wp2
     go_ret
     exact ⟨rfl, HB.out⟩
end Go.Proofs.Ytcggfjpnfodbaaa.A
end
section
namespace Go.Proofs.Ytcggfjpnfodbaaa.A
open Go.RowKit Go.Proofs.YtcggfjpnfodbaaaW.PrintWords Go.Proofs.YtcggfjpnfodbaaaW.PrintLast Go.Proofs.YtcggfjpnfodbaaaW.PrintMore
attribute [local go_sem] max2_int min2_int max_two min_two max_three min_three max_four min_four
set_option linter.unusedVariables false
set_option linter.unusedSimpArgs false
mutual
def Z14.j0 : Nat → List Int → List Int → Bool → Option (Bool)
 | 0, _, _, _ => none
 | k + 1, x0, x1, x29 => if x29 = true then (some false) else (if 0 ≤ (x0.length : Int) then (if ((x0.length : Int) : Int).toNat ≤ 281474976710656 then ((some (List.replicate ((x0.length : Int) : Int).toNat false : List Bool)).bind fun y217 => (if 0 < (y217.length : Int) then (Z14.l0 k x0 x1 (y217.set (0 : Int).toNat true) (([0] : List Int)) 0) else (none))) else (none)) else (none))
def Z14.l0 : Nat → List Int → List Int → List Bool → List Int → Int → Option (Bool)
 | 0, _, _, _, _, _ => none
 | k + 1, x0, x1, x5, x6, x7 => if x7 < (x6.length : Int) then (if 0 ≤ x7 then (if 0 ≤ (rd x6 x7) then (if (rd x6 x7) < (x0.length : Int) then (if (rd x6 x7) < (x1.length : Int) then ((some (([rd x0 (rd x6 x7), rd x1 (rd x6 x7)] : List Int) : List Int)).bind fun y228 => (Z14.l1 k x0 x1 x5 x6 x7 y228 (y228.length : Int) 0)) else (none)) else (none)) else (none)) else (none)) else (some ((x6.length : Int) == (x0.length : Int)))
def Z14.l1 : Nat → List Int → List Int → List Bool → List Int → Int → List Int → Int → Int → Option (Bool)
 | 0, _, _, _, _, _, _, _, _ => none
 | k + 1, x0, x1, x5, x6, x7, x56, x57, x58 => if x58 < x57 then (if 0 ≤ x58 then (if x58 < (x56.length : Int) then (if 0 ≤ (rd x56 x58) then (if (rd x56 x58) < (x5.length : Int) then (if (rdOf false x5 (rd x56 x58) = true) then (Z14.l1 k x0 x1 x5 x6 x7 x56 x57 (wrap64 (x58 + 1))) else (if x6.length < 17592186044416 then (Z14.l1 k x0 x1 (x5.set ((rd x56 x58) : Int).toNat true) (x6 ++ [rd x56 x58]) x7 x56 x57 (wrap64 (x58 + 1))) else (none))) else (none)) else (none)) else (none)) else (none)) else (Z14.l0 k x0 x1 x5 x6 (wrap64 (x7 + 1)))
end
def Z14.f (k : Nat) (l0 : List Int) (l1 : List Int) : Option (Bool) := (Z49.f k l0).bind fun t215 => (if t215 = true then ((Z49.f k l1).bind fun t216 => (if t216 = true then (if (l0.length : Int) = (l1.length : Int) then (Z14.j0 k l0 l1 ((l0.length : Int) == 0)) else (Z14.j0 k l0 l1 true)) else (Z14.j0 k l0 l1 true))) else (Z14.j0 k l0 l1 true))
theorem Z14.mono_l : ∀ k, (∀ y0 y1 y2, LeO (Z14.j0 k y0 y1 y2) (Z14.j0 (k + 1) y0 y1 y2)) ∧ (∀ y0 y1 y2 y3 y4, LeO (Z14.l0 k y0 y1 y2 y3 y4) (Z14.l0 (k + 1) y0 y1 y2 y3 y4)) ∧ (∀ y0 y1 y2 y3 y4 y5 y6 y7, LeO (Z14.l1 k y0 y1 y2 y3 y4 y5 y6 y7) (Z14.l1 (k + 1) y0 y1 y2 y3 y4 y5 y6 y7))
 | 0 => ⟨fun _ _ _ r h => by simp [Z14.j0] at h, fun _ _ _ _ _ r h => by simp [Z14.l0] at h, fun _ _ _ _ _ _ _ _ r h => by simp [Z14.l1] at h⟩
 | k + 1 => by
  obtain ⟨ih0, ih1, ih2⟩ := Z14.mono_l k
  refine ⟨?_, ?_, ?_⟩
  ·intro y0 y1 y2
   unfold Z14.j0
   repeat' first|exact ih0 _ _ _|exact ih1 _ _ _ _ _|exact ih2 _ _ _ _ _ _ _ _|exact Z49.mono _ _|exact lo_|refine LeO.ite ?_ ?_|refine LeO.bind ?_ (fun _ => ?_)
  ·intro y0 y1 y2 y3 y4
   unfold Z14.l0
   repeat' first|exact ih0 _ _ _|exact ih1 _ _ _ _ _|exact ih2 _ _ _ _ _ _ _ _|exact Z49.mono _ _|exact lo_|refine LeO.ite ?_ ?_|refine LeO.bind ?_ (fun _ => ?_)
  ·intro y0 y1 y2 y3 y4 y5 y6 y7
   unfold Z14.l1
   repeat' first|exact ih0 _ _ _|exact ih1 _ _ _ _ _|exact ih2 _ _ _ _ _ _ _ _|exact Z49.mono _ _|exact lo_|refine LeO.ite ?_ ?_|refine LeO.bind ?_ (fun _ => ?_)
theorem Z14.mono : ∀ a0 a1 k, LeO (Z14.f k a0 a1) (Z14.f (k + 1) a0 a1) := by
 intro a0 a1 k
 obtain ⟨ih0, ih1, ih2⟩ := Z14.mono_l k
 unfold Z14.f
 repeat' first|exact ih0 _ _ _|exact ih1 _ _ _ _ _|exact ih2 _ _ _ _ _ _ _ _|exact Z49.mono _ _|exact lo_|refine LeO.ite ?_ ?_|refine LeO.bind ?_ (fun _ => ?_)
def Z14.T9 : Bool × List (List Nat × List Nat) := (true, [([], []), ([], []), ([], []), ([1, 2], [1, 2]), ([3], [3]), ([0, 4], [0, 4]), ([5], [5]), ([], []), ([], []), ([], []), ([8, 9], [8, 9]), ([10], [10]), ([7, 11], [7, 11]), ([12], [12]), ([6, 13], [6, 13]), ([14], [14]), ([], [])])
def Z14.B9 : List Nat := [0, 0, 0, 6, 14, 31, 63, 0, 0, 0, 768, 1792, 3968, 8064, 16383, 32767, 0]
theorem Z14.tab9 : rtab .any (opsOf Try.f106 9) = Z14.T9 := by kernel_rfl
theorem Z14.bits9 : waitsOk Z14.T9.2 Z14.B9 = true := by kernel_rfl
set_option maxHeartbeats 8000000 in
set_option maxRecDepth 100000 in
theorem Z14.calls (k : Nat) (A0 : Option Addr) (c0 : Nat) (l0 : List Int) (A1 : Option Addr) (c1 : Nat) (l1 : List Int) (r : Bool) (w : World) (hr0 : Kd.C (Kd.int .i64) w A0 l0.length l0) (hc0 : l0.length ≤ c0) (hr1 : Kd.C (Kd.int .i64) w A1 l1.length l1) (hc1 : l1.length ≤ c1) (h : Z14.f k l0 l1 = some r) :
  Calls Try.prog 106 #[.slice A0 l0.length c0, .slice A1 l1.length c1] w fun e w' => e = .returned (.bool r) ∧ Below w.heap.size w w' := by
 have HR0 := A_ hr0
 have HC0 := A_ hc0
 clear hr0 hc0
 have HR1 := A_ hr1
 have HC1 := A_ hc1
 clear hr1 hc1
 have HB := A_ (Below.refl w.heap.size w)
 have H := h
 unfold Z14.f at H
 clear h
 have HC3 := A_ H
 clear H
 go_enter Try.func106, Try.ntmps106
 go_upto_region 1 with (fail)
 go_cut [29] (fun v29 wc => ∃ (kq : Nat) (x29_2 : Bool), v29 = .bool x29_2 ∧ Aside0 (Z14.j0 kq l0 l1 x29_2 = some r) ∧ Aside0 (kq ≤ k) ∧ Aside0 (Below w.heap.size w wc))
 case first =>
  have H := HC3.out
  clear HC3
  obtain ⟨t215, A4, H⟩ := bi_ H
  by_cases c5 : t215 = true
  ·subst c5
   rw [if_pos rfl] at H
   obtain ⟨t216, A6, H⟩ := bi_ H
   by_cases c7 : t216 = true
   ·subst c7
    rw [if_pos rfl] at H
    by_cases c8 : (l0.length : Int) = (l1.length : Int)
    ·rw [if_pos c8] at H
     have c8b0 : ((l0.length : Int) == (l1.length : Int)) = true := beq_iff_eq.mpr c8
     have c8b1 : ((l0.length : Int) != (l1.length : Int)) = false := bne_eq_false_iff_eq.mpr c8
     have c8b2 : (l0.length == l1.length) = true := by first | simpa using c8 | (simp at c8 ⊢; omega)
     clear c8
     (first | rw [c8b0] | (simp only [i64_w, i32_w]; rw [c8b0]) | skip)
     have H' := A_ H
     clear H
     go_wp2_with (first | ((with_reducible refine gA_ (f := 107) rfl ?_); refine gL_ (some 11) Try.func107 #[.slice A0 l0.length c0] rfl qa_ ?_; (with_reducible refine (Z49.calls k _ _ l0 true _ (cb_ HR0) HC0.out A4.out).mono ?_); rintro e w9 ⟨rfl, hb⟩; refine ⟨_, rfl, ?_⟩; replace HB := b1_ hb; clear hb) | (go_at_call 107; (with_reducible refine (Z49.calls k _ _ l1 true _ (cb_ HR1) HC1.out A6.out).mono ?_); rintro e w10 ⟨rfl, hb⟩; replace HB := b1_ hb; clear hb))
     go_meet
     case rel => exact ⟨_, (((l0.length : Int) == 0)), qc_, H', ⟨qd_⟩, ⟨hB_⟩⟩
    ·rw [if_neg c8] at H
     have c8b0 : ((l0.length : Int) == (l1.length : Int)) = false := beq_eq_false_iff_ne.mpr c8
     have c8b1 : ((l0.length : Int) != (l1.length : Int)) = true := bne_iff_ne.mpr c8
     have c8b2 : (l0.length == l1.length) = false := by first | simpa using c8 | (simp at c8 ⊢; omega)
     (first | rw [c8b0] | (simp only [i64_w, i32_w]; rw [c8b0]) | skip)
     have H' := A_ H
     clear H
     go_wp2_with (first | ((with_reducible refine gA_ (f := 107) rfl ?_); refine gL_ (some 11) Try.func107 #[.slice A0 l0.length c0] rfl qa_ ?_; (with_reducible refine (Z49.calls k _ _ l0 true _ (cb_ HR0) HC0.out A4.out).mono ?_); rintro e w11 ⟨rfl, hb⟩; refine ⟨_, rfl, ?_⟩; replace HB := b1_ hb; clear hb) | (go_at_call 107; (with_reducible refine (Z49.calls k _ _ l1 true _ (cb_ HR1) HC1.out A6.out).mono ?_); rintro e w12 ⟨rfl, hb⟩; replace HB := b1_ hb; clear hb))
     go_meet
     case rel => exact ⟨_, (true), qc_, H', ⟨qd_⟩, ⟨hB_⟩⟩
   ·replace c7 := Bool.eq_false_iff.mpr c7
    subst c7
    have H1 : (Z14.j0 k l0 l1 true) = some r := by rw [if_neg (show ¬ (false = true) by decide)] at H; exact H
    clear H
    have H := H1
    clear H1
    have H' := A_ H
    clear H
    go_wp2_with (first | ((with_reducible refine gA_ (f := 107) rfl ?_); refine gL_ (some 11) Try.func107 #[.slice A0 l0.length c0] rfl qa_ ?_; (with_reducible refine (Z49.calls k _ _ l0 true _ (cb_ HR0) HC0.out A4.out).mono ?_); rintro e w13 ⟨rfl, hb⟩; refine ⟨_, rfl, ?_⟩; replace HB := b1_ hb; clear hb) | (go_at_call 107; (with_reducible refine (Z49.calls k _ _ l1 false _ (cb_ HR1) HC1.out A6.out).mono ?_); rintro e w14 ⟨rfl, hb⟩; replace HB := b1_ hb; clear hb))
    go_meet
    case rel => exact ⟨_, (true), qc_, H', ⟨qd_⟩, ⟨hB_⟩⟩
  ·replace c5 := Bool.eq_false_iff.mpr c5
   subst c5
   have H1 : (Z14.j0 k l0 l1 true) = some r := by rw [if_neg (show ¬ (false = true) by decide)] at H; exact H
   clear H
   have H := H1
   clear H1
   have H' := A_ H
   clear H
   go_wp2_with (first | ((with_reducible refine gA_ (f := 107) rfl ?_); refine gL_ (some 11) Try.func107 #[.slice A0 l0.length c0] rfl qa_ ?_; (with_reducible refine (Z49.calls k _ _ l0 false _ (cb_ HR0) HC0.out A4.out).mono ?_); rintro e w15 ⟨rfl, hb⟩; refine ⟨_, rfl, ?_⟩; replace HB := b1_ hb; clear hb))
   go_meet
   case rel => exact ⟨_, (true), qc_, H', ⟨qd_⟩, ⟨hB_⟩⟩
 case rest =>
  clear HC3
  obtain ⟨kq, x29_2, rfl, HA, HJ2, HB⟩ := hcut
  cases kq with
  | zero => exact absurd HA.out (by simp [Z14.j0])
  | succ kj2 =>
   have H := HA.out
   clear HA
   simp only [Z14.j0] at H
   by_cases c16 : x29_2 = true
   ·subst c16
    rw [if_pos rfl] at H
    obtain rfl := Option.some.inj H
    go_wp2
    go_ret
    exact ⟨qb_, hB_⟩
   ·replace c16 := Bool.eq_false_iff.mpr c16
    subst c16
    have H1 : (if 0 ≤ (l0.length : Int) then (if ((l0.length : Int) : Int).toNat ≤ 281474976710656 then ((some (List.replicate ((l0.length : Int) : Int).toNat false : List Bool)).bind fun y217 => (if 0 < (y217.length : Int) then (Z14.l0 kj2 l0 l1 (y217.set (0 : Int).toNat true) (([0] : List Int)) 0) else (none))) else (none)) else (none)) = some r := by rw [if_neg (show ¬ (false = true) by decide)] at H; exact H
    clear H
    have H := H1
    clear H1
    have c17 := cp_ H
    replace H := ca_ H
    have c17b0 := eq_true c17
    have c17b1 := oC_ c17
    clear c17
    have c18 := cp_ H
    replace H := ca_ H
    have c18b0 := eq_true c18
    have c18b1 := oC_ c18
    clear c18
    obtain ⟨y217, hy217⟩ : ∃ y_ : List Bool, y_ = (List.replicate ((l0.length : Int) : Int).toNat false) := ⟨_, rfl⟩
    replace H : (if 0 < (y217.length : Int) then (Z14.l0 kj2 l0 l1 (y217.set (0 : Int).toNat true) (([0] : List Int)) 0) else (none)) = some r := by first | (rw [hy217]; exact H) | exact H
    have Ny217 := A_ hy217
    clear hy217
    have c19 := cp_ H
    replace H := ca_ H
    have c19b0 := oC_ c19
    have c19b1 : decide (0 < y217.length) = true := oC_ (by omega)
    clear c19
    obtain ⟨y220, hy220⟩ : ∃ y_ : List Bool, y_ = (y217.set (0 : Int).toNat true) := ⟨_, rfl⟩
    replace H : (Z14.l0 kj2 l0 l1 y220 (([0] : List Int)) 0) = some r := by first | (rw [hy220]; exact H) | exact H
    have Ny220 := A_ hy220
    clear hy220
    obtain ⟨y221, hy221⟩ : ∃ y_ : List Int, y_ = (([0] : List Int)) := ⟨_, rfl⟩
    replace H : (Z14.l0 kj2 l0 l1 y220 y221 0) = some r := by first | (rw [hy221]; exact H) | exact H
    have Ny221 := A_ hy221
    clear hy221
    have H' := A_ H
    clear H
    go_wp2_with (first | ((with_reducible refine gB_ (N := 32) rfl ?_); (try (refine gate_guard (by rfl) ?_; dsimp only)); refine Kd.R_make Kd.bool _ 4 rfl (N := 32) rfl 66 _ _ rfl (l0.length : Int) rfl rfl Try.underlying66 (.bool false) 1 info4 rfl (by decide) (by omega) false (ok := fun _ => True) (okp := fun _ => True) rfl (fun _ hk => hk) trivial (oB_ qe_) (Nat.le_trans (Nat.mul_le_mul_right _ (oB_ qe_ : (l0.length : Int).toNat ≤ 281474976710656)) (by omega)) (Below.refl _ _) (nA_ _) ?_; intro v218 w21 ho22 hb hg_ hnew_; clear hg_ hnew_; (first | rw [← Ny217.out] at ho22 | (simp only [Int.reduceToNat] at ho22; rw [← Ny217.out] at ho22)); have HO219 := rl_ w ho22; replace HB := b1_ hb; clear hb ho22; have p20 : 0 ≤ (0 : Int) := (by omega); have q20 : (0 : Int) < ((y217.length : Int) : Int) := oB_ qe_; have qi20 : (0 < y217.length) = True := eq_true (by omega); obtain ⟨go20, co20, eo20, gb20, gl20, cl20, HG20⟩ := Kd.R_form HO219.out (by omega); (first | cases eo20 | (injection eo20 with ea_ en_ ec_; (first | subst ea_ | (injection ea_ with ea_; subst ea_)); subst ec_; clear en_)); have GB20 := A_ gb20; have GG20 := A_ HG20; clear gb20 gl20 HG20; obtain ⟨hx20_0, hf20_0⟩ := Kd.R_celln false HO219.out (0 : Int) p20 q20; (try rw [show ((0 : Int)).toNat = 0 from rfl] at hx20_0); (try simp only [Nat.reduceMul, Nat.zero_mul, Nat.zero_add, Nat.reduceAdd] at hx20_0); (try rw [show ((0 : Int)).toNat = 0 from rfl] at hf20_0); (try simp only [Nat.reduceMul, Nat.zero_mul, Nat.zero_add, Nat.reduceAdd] at hf20_0); replace p20 := eq_true p20; replace q20 := eq_true q20; obtain ⟨hy23_, hz23_⟩ := Kd.R_celln false HO219.out (0 : Int) (by omega) (oB_ qe_); (try simp only [Int.reduceToNat, Int.toNat_zero, Int.toNat_ofNat, Nat.reduceMul, Nat.zero_mul, Nat.zero_add] at hy23_ hz23_); (try rw [show ((0 : Int)).toNat = 0 from rfl] at hy23_); (try rw [show ((0 : Int)).toNat = 0 from rfl] at hz23_); have HP23 := Kd.R_putg HO219.out (0 : Int) true) | ((with_reducible refine gate_store (t := 4) (p := 34) rfl ?_); refine store_event (t := 4) (p := 34) (v := ?vo_w24) (w1 := (w21.setCell ⟨go20, (0 : Int).toNat, none⟩ (.bool true))) ?hg ?ho ?hn ?hr ?_; (case ho => rfl); (case hg => rfl); (case hn => rfl); (case hr => first | (go_simp; done) | (go_simp; rfl)); intro w24 hw; have hg : w21.grownBy w24 (some go20) := (by rw [hw]; exact HP23.2); have hp_ : Kd.R Kd.bool 4 w24 w.heap.size (fun _ => True) (.slice (some ⟨go20, 0, none⟩) y217.length co20) y220 := (by rw [hw, Ny220.out]; exact HP23.1); clear HP23; replace HO219 := A_ (hp_); replace HB := A_ ((by rw [hw]; exact bD_ (HB.out) GB20.out : Below w.heap.size w w24)); clear hg hw hp_) | ((with_reducible refine gB_ (N := 35) rfl ?_); (try (refine gate_guard (by rfl) ?_; dsimp only)); refine Kd.R_lit (Kd.int .i64) _ 3 ?hg (N := 35) ?hd (xs := ([0] : List Int)) (inner := [.int .i64 0]) (ok := fun _ => True) (okp := fun _ => True) ?hr ?hp (fun _ hk => hk) trivial (Below.refl _ _) (nA_ _) (by simp) ?_; (case hd => rfl); (case hg => rfl); (case hr => first | (go_simp; done) | (go_simp; rfl)); (case hp => exact (Reps.one (show Kd.M (Kd.int .i64) _ _ _ 0 [.int .i64 0] from rfl) (Reps.none _ _))); intro v222 w25 ho26 hb hg_ hnew_; clear hg_ hnew_; (first | rw [← Ny221.out] at ho26 | (simp only [Int.reduceToNat] at ho26; rw [← Ny221.out] at ho26)); replace HO219 := rb_ HO219 hb; have HO223 := rl_ w ho26; replace HB := b1_ hb; clear hb ho26))
    go_loopg [6, 7] kj2 (fun kq v6 v7 w' => ∃ (x5_2 : List Bool) (x6_2 : List Int) (x7_2 : Int), v7 = .int .i64 x7_2 ∧ Aside0 (Z14.l0 kq l0 l1 x5_2 x6_2 x7_2 = some r) ∧ Aside0 (kq ≤ kj2) ∧ Aside0 (Kd.R Kd.bool 4 w' w.heap.size (fun _ => True) (.slice (some ⟨go20, 0, none⟩) y217.length co20) x5_2) ∧ Aside0 (Kd.R (Kd.int .i64) 3 w' w.heap.size (fun _ => True) v6 x6_2) ∧ Aside0 (Below w.heap.size w w'))
    case atStart => exact ⟨(y220), (y221), (0), qc_, H', ⟨nA_ _⟩, ⟨(rr_ HO219)⟩, ⟨(rr_ HO223)⟩, ⟨hB_⟩⟩
    case round =>
     clear H'
     obtain ⟨x5_2, x6_2, x7_2, rfl, HA, HK2, HO_5, HO_6, HB⟩ := hrel
     have hl5_2 := (Kd.R_reads' HO_5.out).1
     rw [hl5_2] at HO_5
     (try simp only [hl5_2])
     (try simp only [hl5_2] at HO_6)
     cases gk with
     | zero => exact absurd HA.out (by simp [Z14.l0])
     | succ k2 =>
      have H := HA.out
      clear HA
      simp only [Z14.l0] at H
      by_cases c27 : x7_2 < (x6_2.length : Int)
      ·rw [if_pos c27] at H
       have c27b0 := oC_ c27
       clear c27
       have c28 := cp_ H
       replace H := ca_ H
       have c28b0 := oC_ c28
       clear c28
       have c29 := cp_ H
       replace H := ca_ H
       have c29b0 := oC_ c29
       clear c29
       have c30 := cp_ H
       replace H := ca_ H
       have c30b0 := oC_ c30
       clear c30
       have c31 := cp_ H
       replace H := ca_ H
       have c31b0 := oC_ c31
       clear c31
       obtain ⟨y228, hy228⟩ : ∃ y_ : List Int, y_ = (([rd l0 (rd x6_2 x7_2), rd l1 (rd x6_2 x7_2)] : List Int)) := ⟨_, rfl⟩
       replace H : (Z14.l1 k2 l0 l1 x5_2 x6_2 x7_2 y228 (y228.length : Int) 0) = some r := by first | (rw [hy228]; exact H) | exact H
       have Ny228 := A_ hy228
       clear hy228
       have H' := A_ H
       clear H
       obtain ⟨Ao32, co32, eo32⟩ := Kd.R_slice HO_6.out
       subst eo32
       try go_wp2
       replace HO_5 := A_ (rC_ HO_5.out)
       replace HO_6 := A_ (rC_ HO_6.out)
       replace HB := A_ (bC_ HB.out)
       have p224 : 0 ≤ (x7_2 : Int) := oB_ qe_
       have q224 : x7_2 < (x6_2.length : Int) := oB_ qe_
       obtain ⟨ad224, e224, hx224_0⟩ := Kd.at_int (Kd.R_reads' HO_6.out).2.2 x7_2 p224 q224
       cases e224
       replace p224 := eq_true p224
       replace q224 := eq_true q224
       have p225 : 0 ≤ ((rd x6_2 x7_2) : Int) := oB_ qe_
       have q225 : (rd x6_2 x7_2) < (l0.length : Int) := oB_ qe_
       obtain ⟨ad225, e225, hx225_0⟩ := Kd.at_int HR0.out (rd x6_2 x7_2) p225 q225
       have hw225_0 := hx225_0
       cases e225
       replace hx225_0 := (HB.out.cell (World.block_lt_of_cell? w _ hx225_0)).trans hx225_0
       replace p225 := eq_true p225
       replace q225 := eq_true q225
       have p226 : 0 ≤ (x7_2 : Int) := oB_ qe_
       have q226 : x7_2 < (x6_2.length : Int) := oB_ qe_
       obtain ⟨ad226, e226, hx226_0⟩ := Kd.at_int (Kd.R_reads' HO_6.out).2.2 x7_2 p226 q226
       obtain rfl : ad224 = ad226 := (by injection e226)
       replace p226 := eq_true p226
       replace q226 := eq_true q226
       have p227 : 0 ≤ ((rd x6_2 x7_2) : Int) := oB_ qe_
       have q227 : (rd x6_2 x7_2) < (l1.length : Int) := oB_ qe_
       obtain ⟨ad227, e227, hx227_0⟩ := Kd.at_int HR1.out (rd x6_2 x7_2) p227 q227
       have hw227_0 := hx227_0
       cases e227
       replace hx227_0 := (HB.out.cell (World.block_lt_of_cell? w _ hx227_0)).trans hx227_0
       replace p227 := eq_true p227
       replace q227 := eq_true q227
       refine start_ (n := 17) (S := fun w' => w'.cell? (ad224.add (x7_2).toNat) = some (.int .i64 (rd x6_2 x7_2)) ∧ w'.cell? (ad225.add ((rd x6_2 x7_2)).toNat) = some (.int .i64 (rd l0 (rd x6_2 x7_2))) ∧ w'.cell? (ad224.add (x7_2).toNat) = some (.int .i64 (rd x6_2 x7_2)) ∧ w'.cell? (ad227.add ((rd x6_2 x7_2)).toNat) = some (.int .i64 (rd l1 (rd x6_2 x7_2)))) (ds := []) (bl_ 17 0) (by kernel_rfl) rfl (by kernel_rfl) ⟨hx224_0, ((HB.out.cell (World.block_lt_of_cell? w _ hw225_0)).trans hw225_0), hx226_0, ((HB.out.cell (World.block_lt_of_cell? w _ hw227_0)).trans hw227_0)⟩ (fun hHeld => ?_); refine with_tabW Z14.tab9 Z14.bits9 (fun HT_ HW_ => ?_)
       generalize wr.drew = w33 at HO_5 HO_6 HB hx224_0 hx225_0 hx226_0 hx227_0 hHeld ⊢
       refine pu_ 0 (some 42) (bl_ 17 1) HT_ ?_
       refine pu_ 1 (some 43) (bl_ 17 3) HT_ ?_
       refine pu_ 2 (some 44) (bl_ 17 7) HT_ ?_
       refine pu_ 3 (some 45) (bl_ 17 15) HT_ ?_
       refine pu_ 7 (some 49) (bl_ 17 143) HT_ ?_
       refine pu_ 8 (some 50) (bl_ 17 399) HT_ ?_
       refine pu_ 9 (some 51) (bl_ 17 911) HT_ ?_
       refine pu_ 10 (some 52) (bl_ 17 1935) HT_ ?_
       refine pu_ 16 (some 58) (bl_ 17 67471) HT_ ?_
       refine ta_ 4 (some 46) (bl_ 17 67487) HT_ HW_ hHeld ?_
       refine pu_ 5 (some 47) (bl_ 17 67519) HT_ ?_
       refine ta_ 6 (some 48) (bl_ 17 67583) HT_ HW_ hHeld ?_
       refine ta_ 11 (some 53) (bl_ 17 69631) HT_ HW_ hHeld ?_
       refine pu_ 12 (some 54) (bl_ 17 73727) HT_ ?_
       refine ta_ 13 (some 55) (bl_ 17 81919) HT_ HW_ hHeld ?_
       refine on_ 14 (some 56) (bl_ 17 98303) HT_ (fun K hK => ?_)
       refine Kd.R_lit_step (Kd.int .i64) _ 3 ?hg (N := 56) ?hd (xs := ([rd l0 (rd x6_2 x7_2), rd l1 (rd x6_2 x7_2)] : List Int)) (inner := [.int .i64 (rd l0 (rd x6_2 x7_2)), .int .i64 (rd l1 (rd x6_2 x7_2))]) (ok := fun _ => True) (okp := fun _ => True) ?hr ?hp (fun _ hk => hk) trivial (Below.refl _ _) (nA_ _) (by simp) ?_; (case hd => rfl); (case hg => rfl); (case hr => first | (go_simp; done) | (go_simp; rfl)); (case hp => exact (Reps.one (show Kd.M (Kd.int .i64) _ _ _ (rd l0 (rd x6_2 x7_2)) [.int .i64 (rd l0 (rd x6_2 x7_2))] from rfl) (Reps.one (show Kd.M (Kd.int .i64) _ _ _ (rd l1 (rd x6_2 x7_2)) [.int .i64 (rd l1 (rd x6_2 x7_2))] from rfl) (Reps.none _ _))))
       intro v229 w34 ho35 hb hg_ hnew_
       have HS0_ := (hb.cell (World.block_lt_of_cell? _ _ (hHeld.1))).trans (hHeld.1)
       have HS2_ := (hb.cell (World.block_lt_of_cell? _ _ (hHeld.2.2.1))).trans (hHeld.2.2.1)
       clear hg_ hnew_
       (first | rw [← Ny228.out] at ho35 | (simp only [Int.reduceToNat] at ho35; rw [← Ny228.out] at ho35))
       replace HO_5 := rb_ HO_5 hb
       have HO230 := A_ (rE_ (Kd.R_new' ho35 (Kd.R_lt (rr_ HO_6))) (bF_ hB_))
       replace HO_6 := A_ (Kd.R_elder' (rr_ HO_6) (Kd.R_base ho35) hb)
       replace HB := b1_ hb
       clear hb ho35
       obtain ⟨Ao36, co36, eo36⟩ := Kd.R_slice HO230.out
       (first | subst eo36 | (injection eo36 with f1_ f2_ f3_; have f4_ := f1_.symm; have f5_ := f3_.symm; clear f1_ f2_ f3_; subst f4_; subst f5_))
       refine hK.out _ _ ⟨HS0_, ((HB.out.cell (World.block_lt_of_cell? w _ hw225_0)).trans hw225_0), HS2_, ((HB.out.cell (World.block_lt_of_cell? w _ hw227_0)).trans hw227_0)⟩ (fun hHeld => ?_)
       clear hK K
       refine no_ (some 56) ?_
       refine pu_ 15 (some 57) (bl_ 17 131071) HT_ ?_
       refine done_ (done_of HT_.out (by kernel_rfl)) ?_
       try go_wp2
       go_loopg [6, 58] k2 (fun kq v6 v58 w' => ∃ (x5_3 : List Bool) (x6_3 : List Int) (x58_3 : Int), v58 = .int .i64 x58_3 ∧ Aside0 (Z14.l1 kq l0 l1 x5_3 x6_3 x7_2 y228 (y228.length : Int) x58_3 = some r) ∧ Aside0 (kq ≤ k2) ∧ Aside0 (Kd.R Kd.bool 4 w' w.heap.size (fun _ => True) (.slice (some ⟨go20, 0, none⟩) x5_2.length co20) x5_3) ∧ Aside0 (Kd.R (Kd.int .i64) 3 w' w.heap.size (fun k_ => some k_ ≠ ((.slice Ao36 y228.length co36) : Value).ownBlock) v6 x6_3) ∧ Aside0 (Kd.R (Kd.int .i64) 3 w' w.heap.size (fun k_ => some k_ ≠ (v6 : Value).ownBlock) (.slice Ao36 y228.length co36) y228) ∧ Aside0 (Below w.heap.size w w'))
       case atStart => exact ⟨(x5_2), (x6_2), (0), qc_, H', ⟨nA_ _⟩, ⟨by (try simp only [hl5_2]); (with_reducible repeat (first | apply rA_ | apply rB_ | apply rC_)); exact HO_5.out⟩, ⟨by (try simp only [hl5_2]); (with_reducible repeat (first | apply rA_ | apply rB_ | apply rC_)); exact Kd.R_mono HO_6.out (fun _ hk => hk.2)⟩, ⟨by (try simp only [hl5_2]); (with_reducible repeat (first | apply rA_ | apply rB_ | apply rC_)); exact Kd.R_mono HO230.out (fun _ hk => hk.2)⟩, ⟨hB_⟩⟩
       case round =>
        clear H'
        obtain ⟨x5_3, x6_3, x58_3, rfl, HA, HK3, HO_5, HO_6, HO_56, HB⟩ := hrel
        have hl5_3 := (Kd.R_reads' HO_5.out).1
        rw [hl5_3] at HO_5
        (try simp only [hl5_3])
        (try simp only [hl5_3] at HO_6)
        (try simp only [hl5_3] at HO_56)
        cases gk with
        | zero => exact absurd HA.out (by simp [Z14.l1])
        | succ k3 =>
         have H := HA.out
         clear HA
         simp only [Z14.l1] at H
         by_cases c37 : x58_3 < (y228.length : Int)
         ·rw [if_pos c37] at H
          have c37b0 := oC_ c37
          clear c37
          have c38 := cp_ H
          replace H := ca_ H
          have c38b0 := oC_ c38
          clear c38
          have c39 := cp_ H
          replace H := ca_ H
          have c39b0 := oC_ c39
          clear c39
          have c40 := cp_ H
          replace H := ca_ H
          have c40b0 := oC_ c40
          clear c40
          have c41 := cp_ H
          replace H := ca_ H
          have c41b0 := oC_ c41
          clear c41
          obtain ⟨bq42, hbq42⟩ : ∃ b_ : Bool, b_ = (rdOf false x5_3 (rd y228 x58_3)) := ⟨_, rfl⟩
          replace H : (if (bq42 = true) then (Z14.l1 k3 l0 l1 x5_3 x6_3 x7_2 y228 (y228.length : Int) (wrap64 (x58_3 + 1))) else (if x6_3.length < 17592186044416 then (Z14.l1 k3 l0 l1 (x5_3.set ((rd y228 x58_3) : Int).toNat true) (x6_3 ++ [rd y228 x58_3]) x7_2 y228 (y228.length : Int) (wrap64 (x58_3 + 1))) else (none))) = some r := by rw [← hbq42] at H; exact H
          have Nbq42 := A_ hbq42
          clear hbq42
          by_cases c43 : (bq42 = true)
          ·subst c43
           rw [if_pos rfl] at H
           have H' := A_ H
           clear H
           have p231 : 0 ≤ (x58_3 : Int) := oB_ qe_
           have q231 : x58_3 < (y228.length : Int) := oB_ qe_
           obtain ⟨ad231, e231, hx231_0⟩ := Kd.at_int (Kd.R_reads' HO_56.out).2.2 x58_3 p231 q231
           cases e231
           replace p231 := eq_true p231
           replace q231 := eq_true q231
           have p232 : 0 ≤ ((rd y228 x58_3) : Int) := oB_ qe_
           have q232 : (rd y228 x58_3) < (x5_3.length : Int) := oB_ qe_
           obtain ⟨ad232, e232, hx232_0⟩ := Kd.at_bool (Kd.R_reads' HO_5.out).2.2 (rd y228 x58_3) p232 q232
           (try rw [← Nbq42.out] at hx232_0)
           obtain rfl : (⟨go20, 0, none⟩ : Addr) = ad232 := (by injection e232)
           (first | simp only [add_plain] at hx232_0 | simp only [add_at] at hx232_0 | simp only [Addr.add, Nat.zero_add] at hx232_0 | skip)
           replace p232 := eq_true p232
           replace q232 := eq_true q232
           go_wp2
           (try simp only [← hl5_3])
           go_roundg k3
           case measure => have := HJ2.out; have := HK2.out; have := HK3.out; omega
           case rel => exact ⟨(x5_3), (x6_3), (wrap64 (x58_3 + 1)), qc_, H', ⟨by have := HJ2.out; have := HK2.out; have := HK3.out; omega⟩, ⟨by (try simp only [hl5_2]); (try simp only [hl5_3]); (with_reducible repeat (first | apply rA_ | apply rB_ | apply rC_)); exact HO_5.out⟩, ⟨by (try simp only [hl5_2]); (try simp only [hl5_3]); (with_reducible repeat (first | apply rA_ | apply rB_ | apply rC_)); exact HO_6.out⟩, ⟨by (try simp only [hl5_2]); (try simp only [hl5_3]); (with_reducible repeat (first | apply rA_ | apply rB_ | apply rC_)); exact HO_56.out⟩, ⟨hB_⟩⟩
          ·replace c43 := Bool.eq_false_iff.mpr c43
           subst c43
           have H1 : (if x6_3.length < 17592186044416 then (Z14.l1 k3 l0 l1 (x5_3.set ((rd y228 x58_3) : Int).toNat true) (x6_3 ++ [rd y228 x58_3]) x7_2 y228 (y228.length : Int) (wrap64 (x58_3 + 1))) else (none)) = some r := by rw [if_neg (show ¬ (false = true) by decide)] at H; exact H
           clear H
           have H := H1
           clear H1
           obtain ⟨y233, hy233⟩ : ∃ y_ : List Bool, y_ = (x5_3.set ((rd y228 x58_3) : Int).toNat true) := ⟨_, rfl⟩
           replace H : (if x6_3.length < 17592186044416 then (Z14.l1 k3 l0 l1 y233 (x6_3 ++ [rd y228 x58_3]) x7_2 y228 (y228.length : Int) (wrap64 (x58_3 + 1))) else (none)) = some r := by first | (rw [hy233]; exact H) | exact H
           have Ny233 := A_ hy233
           clear hy233
           have c45 := cp_ H
           replace H := ca_ H
           have LMc45 := A_ c45
           clear c45
           obtain ⟨y234, hy234⟩ : ∃ y_ : List Int, y_ = (x6_3 ++ [rd y228 x58_3]) := ⟨_, rfl⟩
           replace H : (Z14.l1 k3 l0 l1 y233 y234 x7_2 y228 (y228.length : Int) (wrap64 (x58_3 + 1))) = some r := by first | (rw [hy234]; exact H) | exact H
           have Ny234 := A_ hy234
           clear hy234
           have H' := A_ H
           clear H
           have p231 : 0 ≤ (x58_3 : Int) := oB_ qe_
           have q231 : x58_3 < (y228.length : Int) := oB_ qe_
           obtain ⟨ad231, e231, hx231_0⟩ := Kd.at_int (Kd.R_reads' HO_56.out).2.2 x58_3 p231 q231
           cases e231
           replace p231 := eq_true p231
           replace q231 := eq_true q231
           have p232 : 0 ≤ ((rd y228 x58_3) : Int) := oB_ qe_
           have q232 : (rd y228 x58_3) < (x5_3.length : Int) := oB_ qe_
           obtain ⟨ad232, e232, hx232_0⟩ := Kd.at_bool (Kd.R_reads' HO_5.out).2.2 (rd y228 x58_3) p232 q232
           (try rw [← Nbq42.out] at hx232_0)
           obtain rfl : (⟨go20, 0, none⟩ : Addr) = ad232 := (by injection e232)
           (first | simp only [add_plain] at hx232_0 | simp only [add_at] at hx232_0 | simp only [Addr.add, Nat.zero_add] at hx232_0 | skip)
           replace p232 := eq_true p232
           replace q232 := eq_true q232
           have p44 : 0 ≤ ((rd y228 x58_3) : Int) := oB_ qe_
           have q44 : ((rd y228 x58_3) : Int) < ((x5_3.length : Int) : Int) := oB_ qe_
           obtain ⟨hx44_0, hf44_0⟩ := Kd.R_celln false HO_5.out ((rd y228 x58_3) : Int) p44 q44
           replace p44 := eq_true p44
           replace q44 := eq_true q44
           have HP46 := Kd.R_putg HO_5.out ((rd y228 x58_3) : Int) true
           go_wp2_with (first | ((with_reducible refine gate_store (t := 4) (p := 69) rfl ?_); refine store_event (t := 4) (p := 69) (v := ?vo_w47) (w1 := (wr.setCell ⟨go20, ((rd y228 x58_3) : Int).toNat, none⟩ (.bool true))) ?hg ?ho ?hn ?hr ?_; (case ho => rfl); (case hg => rfl); (case hn => rfl); (case hr => first | (go_simp; done) | (go_simp; rfl)); intro w47 hw; have hg : wr.grownBy w47 (some go20) := (by rw [hw]; exact HP46.2); have hp_ : Kd.R Kd.bool 4 w47 w.heap.size (fun _ => True) (.slice (some ⟨go20, 0, none⟩) x5_3.length co20) y233 := (by rw [hw, Ny233.out]; exact HP46.1); clear HP46; replace HO_6 := A_ (Kd.R_over' (v := (.slice (some ⟨go20, 0, none⟩) x5_3.length co20)) (rr_ HO_6) (Kd.R_typed HO_5.out) (by decide) hg); replace HO_56 := A_ (Kd.R_over' (v := (.slice (some ⟨go20, 0, none⟩) x5_3.length co20)) (rr_ HO_56) (Kd.R_typed HO_5.out) (by decide) hg); replace HO_5 := A_ (hp_); replace HB := A_ ((by rw [hw]; exact bD_ (HB.out) GB20.out : Below w.heap.size w w47)); clear hg hw hp_) | ((with_reducible refine gate_builtin (b := .append) (xs := #[.tmp 70, .tmp 72]) rfl ?_); (try (refine gate_guard (by rfl) ?_; dsimp only)); at_builtin; refine Kd.R_append (Kd.int .i64) (w0 := w) w.heap.size rfl (.tmp 70) (.tmp 72) 23 3 (.int .i64 0) 8 rfl Try.underlying23 info3 rfl (by decide) (by omega) u6 x6_3 (rd y228 x58_3) [.int .i64 (rd y228 x58_3)] (fun k_ => some k_ ≠ (.slice (some ad231) y228.length co36 : Value).ownBlock) (fun _ => False) rfl rfl ?aP (fun _ hk => hk.elim) ?aF ?aO ?aB ?aS ?aL ?_; (case aP => exact rfl); (case aB => exact hB_); (case aF => exact (fun k_ hk => Kd.fresh' (Kd.R_lt (rr_ HO_56)) k_ hk)); (case aO => exact (rr_ HO_6)); (case aS => exact (bF_ hB_)); (case aL => have := LMc45.out; omega); intro v235 w48 ho hb hg hat; rw [← Ny234.out] at ho; replace HO_5 := A_ (Kd.R_over' (rr_ HO_5) (Kd.R_typed (rr_ HO_6)) (by decide) hg); replace HO_56 := A_ (Kd.R_after (ok := (fun _ => True)) (rw_ (Kd.R_mono HO_56.out (fun _ hk => ⟨trivial, hk⟩))) hg hat); replace HB := A_ hb; have HO236 := A_ ho; clear HO_6; clear ho hb hg hat))
           (try simp only [← hl5_3])
           go_roundg k3
           case measure => have := HJ2.out; have := HK2.out; have := HK3.out; omega
           case rel => exact ⟨(y233), (y234), (wrap64 (x58_3 + 1)), qc_, H', ⟨by have := HJ2.out; have := HK2.out; have := HK3.out; omega⟩, ⟨by (try simp only [hl5_2]); (try simp only [hl5_3]); (with_reducible repeat (first | apply rA_ | apply rB_ | apply rC_)); exact HO_5.out⟩, ⟨by (try simp only [hl5_2]); (try simp only [hl5_3]); (with_reducible repeat (first | apply rA_ | apply rB_ | apply rC_)); exact HO236.out⟩, ⟨by (try simp only [hl5_2]); (try simp only [hl5_3]); (with_reducible repeat (first | apply rA_ | apply rB_ | apply rC_)); exact Kd.R_mono HO_56.out (fun _ hk => hk.2)⟩, ⟨hB_⟩⟩
         ·rw [if_neg c37] at H
          have c37b0 := oD_ c37
          clear c37
          have H' := A_ H
          clear H
          go_wp2
          (try simp only [← hl5_2, ← hl5_3])
          go_roundg k3
          case measure => have := HJ2.out; have := HK2.out; have := HK3.out; omega
          case rel => exact ⟨(x5_3), (x6_3), (wrap64 (x7_2 + 1)), qc_, H', ⟨by have := HJ2.out; have := HK2.out; have := HK3.out; omega⟩, ⟨by (try simp only [hl5_2]); (try simp only [hl5_3]); (with_reducible repeat (first | apply rA_ | apply rB_ | apply rC_)); exact HO_5.out⟩, ⟨by (try simp only [hl5_2]); (try simp only [hl5_3]); (with_reducible repeat (first | apply rA_ | apply rB_ | apply rC_)); exact Kd.R_mono HO_6.out (fun _ hk => trivial)⟩, ⟨hB_⟩⟩
      ·rw [if_neg c27] at H
       have c27b0 := oD_ c27
       clear c27
       obtain rfl := Option.some.inj H
       obtain ⟨Ao49, co49, eo49⟩ := Kd.R_slice HO_6.out
       subst eo49
       go_wp2
       go_ret
       exact ⟨qb_, hB_⟩
end Go.Proofs.Ytcggfjpnfodbaaa.A
end
section
namespace Go.Proofs.Ytcggfjpnfodbaaa.A
open Go.RowKit Go.Proofs.YtcggfjpnfodbaaaW.PrintWords Go.Proofs.YtcggfjpnfodbaaaW.PrintLast Go.Proofs.YtcggfjpnfodbaaaW.PrintMore
attribute [local go_sem] max2_int min2_int max_two min_two max_three min_three max_four min_four
set_option linter.unusedVariables false
set_option linter.unusedSimpArgs false
def Z29.f (k : Nat) (l0_0 : List Int) (l0_1 : List Int) : Option (Bool) := (Z14.f k l0_0 l0_1).bind fun t238 => (some t238)
theorem Z29.mono : ∀ a0 a1 k, LeO (Z29.f k a0 a1) (Z29.f (k + 1) a0 a1) := by
 intro a0 a1 k
 unfold Z29.f
 repeat' first|exact Z14.mono _ _ _|exact lo_|refine LeO.ite ?_ ?_|refine LeO.bind ?_ (fun _ => ?_)
set_option maxHeartbeats 8000000 in
set_option maxRecDepth 100000 in
theorem Z29.calls (k : Nat) (A0_0 : Option Addr) (c0_0 : Nat) (l0_0 : List Int) (A0_1 : Option Addr) (c0_1 : Nat) (l0_1 : List Int) (r : Bool) (w : World) (hr0_0 : Kd.C (Kd.int .i64) w A0_0 l0_0.length l0_0) (hc0_0 : l0_0.length ≤ c0_0) (hr0_1 : Kd.C (Kd.int .i64) w A0_1 l0_1.length l0_1) (hc0_1 : l0_1.length ≤ c0_1) (h : Z29.f k l0_0 l0_1 = some r) :
  Calls Try.prog 66 #[.agg #[.slice A0_0 l0_0.length c0_0, .slice A0_1 l0_1.length c0_1]] w fun e w' => e = .returned (.bool r) ∧ Below w.heap.size w w' := by
 have hu25 := Try.underlying25
 have HR0_0 := A_ hr0_0
 have HC0_0 := A_ hc0_0
 clear hr0_0 hc0_0
 have HR0_1 := A_ hr0_1
 have HC0_1 := A_ hc0_1
 clear hr0_1 hc0_1
 have HB := A_ (Below.refl w.heap.size w)
 have H := h
 unfold Z29.f at H
 clear h
 obtain ⟨t238, A2, H⟩ := bi_ H
 obtain rfl := Option.some.inj H
 go_enter Try.func66, Try.ntmps66
 go_wp2_with (first | ((with_reducible refine gB_ (N := 1) rfl ?_); refine bx_ 1 #[.slice A0_0 l0_0.length c0_0, .slice A0_1 l0_1.length c0_1] 25 ?_; intro gb237 hg w3 hbox hb; have BK237 := A_ hbox; have GW237 := gw_ w hg; have GE237 := GW237; replace HB := b1_ hb; clear hb hbox hg; obtain ⟨hcz4_0, hcz4_1, hfz4_0, hfz4_1⟩ := c2_ BK237) | ((with_reducible refine gA_ (f := 106) rfl ?_); refine gL_ (some 7) Try.func106 #[.slice A0_0 l0_0.length c0_0, .slice A0_1 l0_1.length c0_1] rfl qa_ ?_; (with_reducible refine (Z14.calls k _ _ l0_0 _ _ l0_1 t238 _ (cb_ HR0_0) HC0_0.out (cb_ HR0_1) HC0_1.out A2.out).mono ?_); rintro e w5 ⟨rfl, hb⟩; refine ⟨_, rfl, ?_⟩; replace BK237 := bb_ BK237 hb; replace HB := b1_ hb; clear hb))
 go_ret
 exact ⟨qb_, hB_⟩
def Z38.f (l0 : List Int) : Option (List Int) := (some (([] : List Int) : List Int)).bind fun y328 => (if y328.length + l0.length < 17592186044416 then (some (y328 ++ l0)) else (none))
set_option maxHeartbeats 8000000 in
set_option maxRecDepth 100000 in
theorem Z38.calls (A0 : Option Addr) (c0 : Nat) (l0 : List Int) (r : List Int) (w : World) (hr0 : Kd.C (Kd.int .i64) w A0 l0.length l0) (hc0 : l0.length ≤ c0) (h : Z38.f l0 = some r) :
  Calls Try.prog 67 #[.slice A0 l0.length c0] w fun e w' => ∃ v0_ : Value, e = .returned (v0_) ∧ Kd.R (Kd.int .i64) 3 w' w.heap.size (fun _ => True) v0_ r ∧ Below w.heap.size w w' := by
 have HR0 := A_ hr0
 have HC0 := A_ hc0
 clear hr0 hc0
 have HB := A_ (Below.refl w.heap.size w)
 have H := h
 unfold Z38.f at H
 clear h
 obtain ⟨y328, hy328⟩ : ∃ y_ : List Int, y_ = (([] : List Int)) := ⟨_, rfl⟩
 replace H : (if y328.length + l0.length < 17592186044416 then (some (y328 ++ l0)) else (none)) = some r := by first | (rw [hy328]; exact H) | exact H
 have Ny328 := A_ hy328
 clear hy328
 have c2 := cp_ H
 replace H := ca_ H
 have LMc2 := A_ c2
 clear c2
 obtain ⟨y331, hy331⟩ : ∃ y_ : List Int, y_ = (y328 ++ l0) := ⟨_, rfl⟩
 replace H : (some y331) = some r := by first | (rw [hy331]; exact H) | exact H
 have Ny331 := A_ hy331
 clear hy331
 obtain rfl := Option.some.inj H
 go_enter Try.func67, Try.ntmps67
 go_wp2_with (first | ((with_reducible refine gB_ (N := 3) rfl ?_); refine Kd.R_lit (Kd.int .i64) _ 3 ?hg (N := 3) ?hd (xs := ([] : List Int)) (inner := []) (ok := fun _ => True) (okp := fun _ => True) ?hr ?hp (fun _ hk => hk) trivial (Below.refl _ _) (nA_ _) (by simp) ?_; (case hd => rfl); (case hg => rfl); (case hr => first | (go_simp; done) | (go_simp; rfl)); (case hp => exact (Reps.none _ _)); intro v329 w3 ho4 hb hg_ hnew_; clear hg_ hnew_; (first | rw [← Ny328.out] at ho4 | (simp only [Int.reduceToNat] at ho4; rw [← Ny328.out] at ho4)); have HO330 := rl_ w ho4; replace HB := b1_ hb; clear hb ho4) | ((with_reducible refine gate_builtin (b := .append) (xs := #[.tmp 3, .tmp 4]) rfl ?_); at_builtin; refine Kd.R_append_rows (Kd.int .i64) (w0 := w) w.heap.size rfl (.tmp 3) (.tmp 4) 23 3 (.int .i64 0) 8 rfl Try.underlying23 info3 rfl (by decide) (by omega) v329 y328 l0 _ _ _ (fun _ => True) (fun _ => False) rfl rfl ?aO ?aR (fun _ _ h => h) (fun _ h => h.elim) ?aF ?aB ?aS ?aL ?_; (case aR => exact cb_ HR0); (case aB => exact hB_); (case aF => exact (fun _ _ => trivial)); (case aO => exact (rr_ HO330)); (case aS => exact (bF_ hB_)); (case aL => have := LMc2.out; omega); intro v332 w5 ho hb hg hat; rw [← Ny331.out] at ho; replace HB := A_ hb; have HO333 := A_ ho; clear HO330; clear ho hb hg hat))
 go_ret
 exact ⟨_, qb_, (rr_ HO333), hB_⟩
end Go.Proofs.Ytcggfjpnfodbaaa.A
end
section
namespace Go.Proofs.Ytcggfjpnfodbaaa.A
open Go.RowKit Go.Proofs.YtcggfjpnfodbaaaW.PrintWords Go.Proofs.YtcggfjpnfodbaaaW.PrintLast Go.Proofs.YtcggfjpnfodbaaaW.PrintMore
attribute [local go_sem] max2_int min2_int max_two min_two max_three min_three max_four min_four
set_option linter.unusedVariables false
set_option linter.unusedSimpArgs false
mutual
def Z37.j0 : Nat → List Int → List Int → Bool → Option (List Int)
 | 0, _, _, _ => none
 | k + 1, x0, x1, x22 => if x22 = true then (some ([] : List Int)) else (if 0 ≤ (x0.length : Int) then (if ((x0.length : Int) : Int).toNat ≤ 35184372088832 then (Z37.l0 k x1 (List.replicate ((x0.length : Int) : Int).toNat 0) x0 (x0.length : Int) 0) else (none)) else (none))
def Z37.l0 : Nat → List Int → List Int → List Int → Int → Int → Option (List Int)
 | 0, _, _, _, _, _ => none
 | k + 1, x1, x5, x26, x27, x28 => if x28 < x27 then (if 0 ≤ x28 then (if x28 < (x26.length : Int) then (if 0 ≤ (rd x26 x28) then (if (rd x26 x28) < (x1.length : Int) then (if x28 < (x5.length : Int) then (Z37.l0 k x1 (x5.set (x28 : Int).toNat (rd x1 (rd x26 x28))) x26 x27 (wrap64 (x28 + 1))) else (none)) else (none)) else (none)) else (none)) else (none)) else (some x5)
end
def Z37.f (k : Nat) (l0 : List Int) (l1 : List Int) : Option (List Int) := (Z49.f k l0).bind fun t334 => (if t334 = true then ((Z49.f k l1).bind fun t335 => (if t335 = true then (Z37.j0 k l0 l1 ((l0.length : Int) != (l1.length : Int))) else (Z37.j0 k l0 l1 true))) else (Z37.j0 k l0 l1 true))
theorem Z37.mono_l : ∀ k, (∀ y0 y1 y2, LeO (Z37.j0 k y0 y1 y2) (Z37.j0 (k + 1) y0 y1 y2)) ∧ (∀ y0 y1 y2 y3 y4, LeO (Z37.l0 k y0 y1 y2 y3 y4) (Z37.l0 (k + 1) y0 y1 y2 y3 y4))
 | 0 => ⟨fun _ _ _ r h => by simp [Z37.j0] at h, fun _ _ _ _ _ r h => by simp [Z37.l0] at h⟩
 | k + 1 => by
  obtain ⟨ih0, ih1⟩ := Z37.mono_l k
  refine ⟨?_, ?_⟩
  ·intro y0 y1 y2
   unfold Z37.j0
   repeat' first|exact ih0 _ _ _|exact ih1 _ _ _ _ _|exact Z49.mono _ _|exact lo_|refine LeO.ite ?_ ?_|refine LeO.bind ?_ (fun _ => ?_)
  ·intro y0 y1 y2 y3 y4
   unfold Z37.l0
   repeat' first|exact ih0 _ _ _|exact ih1 _ _ _ _ _|exact Z49.mono _ _|exact lo_|refine LeO.ite ?_ ?_|refine LeO.bind ?_ (fun _ => ?_)
theorem Z37.mono : ∀ a0 a1 k, LeO (Z37.f k a0 a1) (Z37.f (k + 1) a0 a1) := by
 intro a0 a1 k
 obtain ⟨ih0, ih1⟩ := Z37.mono_l k
 unfold Z37.f
 repeat' first|exact ih0 _ _ _|exact ih1 _ _ _ _ _|exact Z49.mono _ _|exact lo_|refine LeO.ite ?_ ?_|refine LeO.bind ?_ (fun _ => ?_)
set_option maxHeartbeats 8000000 in
set_option maxRecDepth 100000 in
theorem Z37.calls (k : Nat) (A0 : Option Addr) (c0 : Nat) (l0 : List Int) (A1 : Option Addr) (c1 : Nat) (l1 : List Int) (r : List Int) (w : World) (hr0 : Kd.C (Kd.int .i64) w A0 l0.length l0) (hc0 : l0.length ≤ c0) (hr1 : Kd.C (Kd.int .i64) w A1 l1.length l1) (hc1 : l1.length ≤ c1) (h : Z37.f k l0 l1 = some r) :
  Calls Try.prog 68 #[.slice A0 l0.length c0, .slice A1 l1.length c1] w fun e w' => ∃ v0_ : Value, e = .returned (v0_) ∧ Kd.R (Kd.int .i64) 3 w' w.heap.size (fun _ => True) v0_ r ∧ Below w.heap.size w w' := by
 have HR0 := A_ hr0
 have HC0 := A_ hc0
 clear hr0 hc0
 have HR1 := A_ hr1
 have HC1 := A_ hc1
 clear hr1 hc1
 have HB := A_ (Below.refl w.heap.size w)
 have H := h
 unfold Z37.f at H
 clear h
 have HC3 := A_ H
 clear H
 go_enter Try.func68, Try.ntmps68
 go_upto_region 1 with (fail)
 go_cut [22] (fun v22 wc => ∃ (kq : Nat) (x22_2 : Bool), v22 = .bool x22_2 ∧ Aside0 (Z37.j0 kq l0 l1 x22_2 = some r) ∧ Aside0 (kq ≤ k) ∧ Aside0 (Below w.heap.size w wc))
 case first =>
  have H := HC3.out
  clear HC3
  obtain ⟨t334, A4, H⟩ := bi_ H
  by_cases c5 : t334 = true
  ·subst c5
   rw [if_pos rfl] at H
   obtain ⟨t335, A6, H⟩ := bi_ H
   by_cases c7 : t335 = true
   ·subst c7
    rw [if_pos rfl] at H
    have H' := A_ H
    clear H
    go_wp2_with (first | ((with_reducible refine gA_ (f := 107) rfl ?_); refine gL_ (some 9) Try.func107 #[.slice A0 l0.length c0] rfl qa_ ?_; (with_reducible refine (Z49.calls k _ _ l0 true _ (cb_ HR0) HC0.out A4.out).mono ?_); rintro e w8 ⟨rfl, hb⟩; refine ⟨_, rfl, ?_⟩; replace HB := b1_ hb; clear hb) | (go_at_call 107; (with_reducible refine (Z49.calls k _ _ l1 true _ (cb_ HR1) HC1.out A6.out).mono ?_); rintro e w9 ⟨rfl, hb⟩; replace HB := b1_ hb; clear hb))
    go_meet
    case rel => exact ⟨_, (((l0.length : Int) != (l1.length : Int))), qc_, H', ⟨qd_⟩, ⟨hB_⟩⟩
   ·replace c7 := Bool.eq_false_iff.mpr c7
    subst c7
    have H1 : (Z37.j0 k l0 l1 true) = some r := by rw [if_neg (show ¬ (false = true) by decide)] at H; exact H
    clear H
    have H := H1
    clear H1
    have H' := A_ H
    clear H
    go_wp2_with (first | ((with_reducible refine gA_ (f := 107) rfl ?_); refine gL_ (some 9) Try.func107 #[.slice A0 l0.length c0] rfl qa_ ?_; (with_reducible refine (Z49.calls k _ _ l0 true _ (cb_ HR0) HC0.out A4.out).mono ?_); rintro e w10 ⟨rfl, hb⟩; refine ⟨_, rfl, ?_⟩; replace HB := b1_ hb; clear hb) | (go_at_call 107; (with_reducible refine (Z49.calls k _ _ l1 false _ (cb_ HR1) HC1.out A6.out).mono ?_); rintro e w11 ⟨rfl, hb⟩; replace HB := b1_ hb; clear hb))
    go_meet
    case rel => exact ⟨_, (true), qc_, H', ⟨qd_⟩, ⟨hB_⟩⟩
  ·replace c5 := Bool.eq_false_iff.mpr c5
   subst c5
   have H1 : (Z37.j0 k l0 l1 true) = some r := by rw [if_neg (show ¬ (false = true) by decide)] at H; exact H
   clear H
   have H := H1
   clear H1
   have H' := A_ H
   clear H
   go_wp2_with (first | ((with_reducible refine gA_ (f := 107) rfl ?_); refine gL_ (some 9) Try.func107 #[.slice A0 l0.length c0] rfl qa_ ?_; (with_reducible refine (Z49.calls k _ _ l0 false _ (cb_ HR0) HC0.out A4.out).mono ?_); rintro e w12 ⟨rfl, hb⟩; refine ⟨_, rfl, ?_⟩; replace HB := b1_ hb; clear hb))
   go_meet
   case rel => exact ⟨_, (true), qc_, H', ⟨qd_⟩, ⟨hB_⟩⟩
 case rest =>
  clear HC3
  obtain ⟨kq, x22_2, rfl, HA, HJ2, HB⟩ := hcut
  cases kq with
  | zero => exact absurd HA.out (by simp [Z37.j0])
  | succ kj2 =>
   have H := HA.out
   clear HA
   simp only [Z37.j0] at H
   by_cases c13 : x22_2 = true
   ·subst c13
    rw [if_pos rfl] at H
    obtain rfl := Option.some.inj H
    go_wp2
    go_ret
    exact ⟨_, qb_, by first | exact Kd.R_nil _ _ _ _ _ | exact Kd.N_nil _ _ _ _ _ | exact Kd.V_nil _ _ _ _ _ | exact Kd.Q_nil _ _ _ _ _ | exact Kd.S_nil _ _ _ _ _, hB_⟩
   ·replace c13 := Bool.eq_false_iff.mpr c13
    subst c13
    have H1 : (if 0 ≤ (l0.length : Int) then (if ((l0.length : Int) : Int).toNat ≤ 35184372088832 then (Z37.l0 kj2 l1 (List.replicate ((l0.length : Int) : Int).toNat 0) l0 (l0.length : Int) 0) else (none)) else (none)) = some r := by rw [if_neg (show ¬ (false = true) by decide)] at H; exact H
    clear H
    have H := H1
    clear H1
    have c14 := cp_ H
    replace H := ca_ H
    have c14b0 := eq_true c14
    have c14b1 := oC_ c14
    clear c14
    have c15 := cp_ H
    replace H := ca_ H
    have c15b0 := eq_true c15
    have c15b1 := oC_ c15
    clear c15
    obtain ⟨y336, hy336⟩ : ∃ y_ : List Int, y_ = (List.replicate ((l0.length : Int) : Int).toNat 0) := ⟨_, rfl⟩
    replace H : (Z37.l0 kj2 l1 y336 l0 (l0.length : Int) 0) = some r := by first | (rw [hy336]; exact H) | exact H
    have Ny336 := A_ hy336
    clear hy336
    have H' := A_ H
    clear H
    go_wp2_with (first | ((with_reducible refine gB_ (N := 25) rfl ?_); (try (refine gate_guard (by rfl) ?_; dsimp only)); refine Kd.R_make (Kd.int .i64) _ 3 rfl (N := 25) rfl 23 _ _ rfl (l0.length : Int) rfl rfl Try.underlying23 (.int .i64 0) 8 info3 rfl (by decide) (by omega) 0 (ok := fun _ => True) (okp := fun _ => True) rfl (fun _ hk => hk) trivial (oB_ qe_) (Nat.le_trans (Nat.mul_le_mul_right _ (oB_ qe_ : (l0.length : Int).toNat ≤ 35184372088832)) (by omega)) (Below.refl _ _) (nA_ _) ?_; intro v337 w16 ho17 hb hg_ hnew_; clear hg_ hnew_; (first | rw [← Ny336.out] at ho17 | (simp only [Int.reduceToNat] at ho17; rw [← Ny336.out] at ho17)); have HO338 := rl_ w ho17; replace HB := b1_ hb; clear hb ho17))
    go_loopg [28] kj2 (fun kq v28 w' => ∃ (x5_2 : List Int) (x28_2 : Int), v28 = .int .i64 x28_2 ∧ Aside0 (Z37.l0 kq l1 x5_2 l0 (l0.length : Int) x28_2 = some r) ∧ Aside0 (kq ≤ kj2) ∧ Aside0 (Kd.R (Kd.int .i64) 3 w' w.heap.size (fun _ => True) v337 x5_2) ∧ Aside0 (Below w.heap.size w w'))
    case atStart => exact ⟨(y336), (0), qc_, H', ⟨nA_ _⟩, ⟨(rr_ HO338)⟩, ⟨hB_⟩⟩
    case round =>
     clear H'
     obtain ⟨x5_2, x28_2, rfl, HA, HK2, HO_5, HB⟩ := hrel
     cases gk with
     | zero => exact absurd HA.out (by simp [Z37.l0])
     | succ k2 =>
      have H := HA.out
      clear HA
      simp only [Z37.l0] at H
      by_cases c18 : x28_2 < (l0.length : Int)
      ·rw [if_pos c18] at H
       have c18b0 := oC_ c18
       clear c18
       have c19 := cp_ H
       replace H := ca_ H
       have c19b0 := oC_ c19
       clear c19
       have c20 := cp_ H
       replace H := ca_ H
       have c20b0 := oC_ c20
       clear c20
       have c21 := cp_ H
       replace H := ca_ H
       have c21b0 := oC_ c21
       clear c21
       have c22 := cp_ H
       replace H := ca_ H
       have c22b0 := oC_ c22
       clear c22
       have c23 := cp_ H
       replace H := ca_ H
       have c23b0 := oC_ c23
       clear c23
       obtain ⟨y341, hy341⟩ : ∃ y_ : List Int, y_ = (x5_2.set (x28_2 : Int).toNat (rd l1 (rd l0 x28_2))) := ⟨_, rfl⟩
       replace H : (Z37.l0 k2 l1 y341 l0 (l0.length : Int) (wrap64 (x28_2 + 1))) = some r := by first | (rw [hy341]; exact H) | exact H
       have Ny341 := A_ hy341
       clear hy341
       have H' := A_ H
       clear H
       have p339 : 0 ≤ (x28_2 : Int) := oB_ qe_
       have q339 : x28_2 < (l0.length : Int) := oB_ qe_
       obtain ⟨ad339, e339, hx339_0⟩ := Kd.at_int HR0.out x28_2 p339 q339
       cases e339
       replace hx339_0 := (HB.out.cell (World.block_lt_of_cell? w _ hx339_0)).trans hx339_0
       replace p339 := eq_true p339
       replace q339 := eq_true q339
       have p340 : 0 ≤ ((rd l0 x28_2) : Int) := oB_ qe_
       have q340 : (rd l0 x28_2) < (l1.length : Int) := oB_ qe_
       obtain ⟨ad340, e340, hx340_0⟩ := Kd.at_int HR1.out (rd l0 x28_2) p340 q340
       cases e340
       replace hx340_0 := (HB.out.cell (World.block_lt_of_cell? w _ hx340_0)).trans hx340_0
       replace p340 := eq_true p340
       replace q340 := eq_true q340
       have p24 : 0 ≤ (x28_2 : Int) := oB_ qe_
       have q24 : (x28_2 : Int) < ((x5_2.length : Int) : Int) := oB_ qe_
       obtain ⟨go24, co24, eo24, gb24, gl24, cl24, HG24⟩ := Kd.R_form HO_5.out (by omega)
       (first | cases eo24 | (injection eo24 with ea_ en_ ec_; (first | subst ea_ | (injection ea_ with ea_; subst ea_)); subst ec_; clear en_))
       have GB24 := A_ gb24
       have GG24 := A_ HG24
       clear gb24 gl24 HG24
       obtain ⟨hx24_0, hf24_0⟩ := Kd.R_celln 0 HO_5.out (x28_2 : Int) p24 q24
       replace p24 := eq_true p24
       replace q24 := eq_true q24
       have HP25 := Kd.R_putg HO_5.out (x28_2 : Int) (rd l1 (rd l0 x28_2))
       go_wp2_with (first | ((with_reducible refine gate_store (t := 3) (p := 39) rfl ?_); refine store_event (t := 3) (p := 39) (v := ?vo_w26) (w1 := (wr.setCell ⟨go24, (x28_2 : Int).toNat, none⟩ (.int .i64 (rd l1 (rd l0 x28_2))))) ?hg ?ho ?hn ?hr ?_; (case ho => rfl); (case hg => rfl); (case hn => rfl); (case hr => first | (go_simp; done) | (go_simp; rfl)); intro w26 hw; have hg : wr.grownBy w26 (some go24) := (by rw [hw]; exact HP25.2); have hp_ : Kd.R (Kd.int .i64) 3 w26 w.heap.size (fun _ => True) (.slice (some ⟨go24, 0, none⟩) x5_2.length co24) y341 := (by rw [hw, Ny341.out]; exact HP25.1); clear HP25; replace HO_5 := A_ (hp_); replace HB := A_ ((by rw [hw]; exact bD_ (HB.out) GB24.out : Below w.heap.size w w26)); clear hg hw hp_))
       go_roundg k2
       case measure => have := HJ2.out; have := HK2.out; omega
       case rel => exact ⟨(y341), (wrap64 (x28_2 + 1)), qc_, H', ⟨by have := HJ2.out; have := HK2.out; omega⟩, ⟨(rr_ HO_5)⟩, ⟨hB_⟩⟩
      ·rw [if_neg c18] at H
       have c18b0 := oD_ c18
       clear c18
       obtain rfl := Option.some.inj H
       go_wp2
       go_ret
       exact ⟨_, qb_, (rr_ HO_5), hB_⟩
end Go.Proofs.Ytcggfjpnfodbaaa.A
end
section
namespace Go.Proofs.Ytcggfjpnfodbaaa.A
open Go.RowKit Go.Proofs.YtcggfjpnfodbaaaW.PrintWords Go.Proofs.YtcggfjpnfodbaaaW.PrintLast Go.Proofs.YtcggfjpnfodbaaaW.PrintMore
attribute [local go_sem] max2_int min2_int max_two min_two max_three min_three max_four min_four
set_option linter.unusedVariables false
set_option linter.unusedSimpArgs false
def Z18.l0 : Nat → List Int → List Int → Int → Int → Option (List Int)
 | 0, _, _, _, _ => none
 | k + 1, x3, x12, x13, x14 => if x14 < x13 then (if 0 ≤ x14 then (if x14 < (x12.length : Int) then (if 0 ≤ (rd x12 x14) then (if (rd x12 x14) < (x3.length : Int) then (Z18.l0 k (x3.set ((rd x12 x14) : Int).toNat x14) x12 x13 (wrap64 (x14 + 1))) else (none)) else (none)) else (none)) else (none)) else (some x3)
def Z18.f (k : Nat) (l0 : List Int) : Option (List Int) := (Z49.f k l0).bind fun t342 => (if t342 = true then (if 0 ≤ (l0.length : Int) then (if ((l0.length : Int) : Int).toNat ≤ 35184372088832 then (Z18.l0 k (List.replicate ((l0.length : Int) : Int).toNat 0) l0 (l0.length : Int) 0) else (none)) else (none)) else (some ([] : List Int)))
theorem Z18.mono_l : ∀ k, (∀ y0 y1 y2 y3, LeO (Z18.l0 k y0 y1 y2 y3) (Z18.l0 (k + 1) y0 y1 y2 y3))
 | 0 => fun _ _ _ _ r h => by simp [Z18.l0] at h
 | k + 1 => by
  have ih0 := Z18.mono_l k
  ·intro y0 y1 y2 y3
   unfold Z18.l0
   repeat' first|exact ih0 _ _ _ _|exact Z49.mono _ _|exact lo_|refine LeO.ite ?_ ?_|refine LeO.bind ?_ (fun _ => ?_)
theorem Z18.mono : ∀ a0 k, LeO (Z18.f k a0) (Z18.f (k + 1) a0) := by
 intro a0 k
 have ih0 := Z18.mono_l k
 unfold Z18.f
 repeat' first|exact ih0 _ _ _ _|exact Z49.mono _ _|exact lo_|refine LeO.ite ?_ ?_|refine LeO.bind ?_ (fun _ => ?_)
set_option maxHeartbeats 8000000 in
set_option maxRecDepth 100000 in
theorem Z18.calls (k : Nat) (A0 : Option Addr) (c0 : Nat) (l0 : List Int) (r : List Int) (w : World) (hr0 : Kd.C (Kd.int .i64) w A0 l0.length l0) (hc0 : l0.length ≤ c0) (h : Z18.f k l0 = some r) :
  Calls Try.prog 69 #[.slice A0 l0.length c0] w fun e w' => ∃ v0_ : Value, e = .returned (v0_) ∧ Kd.R (Kd.int .i64) 3 w' w.heap.size (fun _ => True) v0_ r ∧ Below w.heap.size w w' := by
 have HR0 := A_ hr0
 have HC0 := A_ hc0
 clear hr0 hc0
 have HB := A_ (Below.refl w.heap.size w)
 have H := h
 unfold Z18.f at H
 clear h
 obtain ⟨t342, A2, H⟩ := bi_ H
 by_cases c3 : t342 = true
 ·subst c3
  rw [if_pos rfl] at H
  have c4 := cp_ H
  replace H := ca_ H
  have c4b0 := eq_true c4
  have c4b1 := oC_ c4
  clear c4
  have c5 := cp_ H
  replace H := ca_ H
  have c5b0 := eq_true c5
  have c5b1 := oC_ c5
  clear c5
  obtain ⟨y343, hy343⟩ : ∃ y_ : List Int, y_ = (List.replicate ((l0.length : Int) : Int).toNat 0) := ⟨_, rfl⟩
  replace H : (Z18.l0 k y343 l0 (l0.length : Int) 0) = some r := by first | (rw [hy343]; exact H) | exact H
  have Ny343 := A_ hy343
  clear hy343
  have H' := A_ H
  clear H
  go_enter Try.func69, Try.ntmps69
  go_wp2_with (first | ((with_reducible refine gA_ (f := 107) rfl ?_); refine gL_ (some 7) Try.func107 #[.slice A0 l0.length c0] rfl qa_ ?_; (with_reducible refine (Z49.calls k _ _ l0 true _ (cc_ HR0) HC0.out A2.out).mono ?_); rintro e w6 ⟨rfl, hb⟩; refine ⟨_, rfl, ?_⟩; replace HB := b1_ hb; clear hb) | ((with_reducible refine gB_ (N := 11) rfl ?_); refine Kd.R_make (Kd.int .i64) _ 3 rfl (N := 11) rfl 23 _ _ rfl (l0.length : Int) rfl rfl Try.underlying23 (.int .i64 0) 8 info3 rfl (by decide) (by omega) 0 (ok := fun _ => True) (okp := fun _ => True) rfl (fun _ hk => hk) trivial (oB_ qe_) (Nat.le_trans (Nat.mul_le_mul_right _ (oB_ qe_ : (l0.length : Int).toNat ≤ 35184372088832)) (by omega)) (Below.refl _ _) (nA_ _) ?_; intro v344 w7 ho8 hb hg_ hnew_; clear hg_ hnew_; (first | rw [← Ny343.out] at ho8 | (simp only [Int.reduceToNat] at ho8; rw [← Ny343.out] at ho8)); have HO345 := rl_ w ho8; replace HB := b1_ hb; clear hb ho8))
  go_loopg [14] k (fun kq v14 w' => ∃ (x3_1 : List Int) (x14_1 : Int), v14 = .int .i64 x14_1 ∧ Aside0 (Z18.l0 kq x3_1 l0 (l0.length : Int) x14_1 = some r) ∧ Aside0 (kq ≤ k) ∧ Aside0 (Kd.R (Kd.int .i64) 3 w' w.heap.size (fun _ => True) v344 x3_1) ∧ Aside0 (Below w.heap.size w w'))
  case atStart => exact ⟨(y343), (0), qc_, H', ⟨nA_ _⟩, ⟨(rr_ HO345)⟩, ⟨hB_⟩⟩
  case round =>
   clear H'
   obtain ⟨x3_1, x14_1, rfl, HA, HK1, HO_3, HB⟩ := hrel
   cases gk with
   | zero => exact absurd HA.out (by simp [Z18.l0])
   | succ k1 =>
    have H := HA.out
    clear HA
    simp only [Z18.l0] at H
    by_cases c9 : x14_1 < (l0.length : Int)
    ·rw [if_pos c9] at H
     have c9b0 := oC_ c9
     clear c9
     have c10 := cp_ H
     replace H := ca_ H
     have c10b0 := oC_ c10
     clear c10
     have c11 := cp_ H
     replace H := ca_ H
     have c11b0 := oC_ c11
     clear c11
     have c12 := cp_ H
     replace H := ca_ H
     have c12b0 := oC_ c12
     clear c12
     have c13 := cp_ H
     replace H := ca_ H
     have c13b0 := oC_ c13
     clear c13
     obtain ⟨y347, hy347⟩ : ∃ y_ : List Int, y_ = (x3_1.set ((rd l0 x14_1) : Int).toNat x14_1) := ⟨_, rfl⟩
     replace H : (Z18.l0 k1 y347 l0 (l0.length : Int) (wrap64 (x14_1 + 1))) = some r := by first | (rw [hy347]; exact H) | exact H
     have Ny347 := A_ hy347
     clear hy347
     have H' := A_ H
     clear H
     have p346 : 0 ≤ (x14_1 : Int) := oB_ qe_
     have q346 : x14_1 < (l0.length : Int) := oB_ qe_
     obtain ⟨ad346, e346, hx346_0⟩ := Kd.at_int HR0.out x14_1 p346 q346
     cases e346
     replace hx346_0 := (HB.out.cell (World.block_lt_of_cell? w _ hx346_0)).trans hx346_0
     replace p346 := eq_true p346
     replace q346 := eq_true q346
     have p14 : 0 ≤ ((rd l0 x14_1) : Int) := oB_ qe_
     have q14 : ((rd l0 x14_1) : Int) < ((x3_1.length : Int) : Int) := oB_ qe_
     obtain ⟨go14, co14, eo14, gb14, gl14, cl14, HG14⟩ := Kd.R_form HO_3.out (by omega)
     (first | cases eo14 | (injection eo14 with ea_ en_ ec_; (first | subst ea_ | (injection ea_ with ea_; subst ea_)); subst ec_; clear en_))
     have GB14 := A_ gb14
     have GG14 := A_ HG14
     clear gb14 gl14 HG14
     obtain ⟨hx14_0, hf14_0⟩ := Kd.R_celln 0 HO_3.out ((rd l0 x14_1) : Int) p14 q14
     replace p14 := eq_true p14
     replace q14 := eq_true q14
     have HP15 := Kd.R_putg HO_3.out ((rd l0 x14_1) : Int) x14_1
     go_wp2_with (first | ((with_reducible refine gate_store (t := 3) (p := 22) rfl ?_); refine store_event (t := 3) (p := 22) (v := ?vo_w16) (w1 := (wr.setCell ⟨go14, ((rd l0 x14_1) : Int).toNat, none⟩ (.int .i64 x14_1))) ?hg ?ho ?hn ?hr ?_; (case ho => rfl); (case hg => rfl); (case hn => rfl); (case hr => first | (go_simp; done) | (go_simp; rfl)); intro w16 hw; have hg : wr.grownBy w16 (some go14) := (by rw [hw]; exact HP15.2); have hp_ : Kd.R (Kd.int .i64) 3 w16 w.heap.size (fun _ => True) (.slice (some ⟨go14, 0, none⟩) x3_1.length co14) y347 := (by rw [hw, Ny347.out]; exact HP15.1); clear HP15; replace HO_3 := A_ (hp_); replace HB := A_ ((by rw [hw]; exact bD_ (HB.out) GB14.out : Below w.heap.size w w16)); clear hg hw hp_))
     go_roundg k1
     case measure => have := HK1.out; omega
     case rel => exact ⟨(y347), (wrap64 (x14_1 + 1)), qc_, H', ⟨by have := HK1.out; omega⟩, ⟨(rr_ HO_3)⟩, ⟨hB_⟩⟩
    ·rw [if_neg c9] at H
     have c9b0 := oD_ c9
     clear c9
     obtain rfl := Option.some.inj H
     go_wp2
     go_ret
     exact ⟨_, qb_, (rr_ HO_3), hB_⟩
 ·replace c3 := Bool.eq_false_iff.mpr c3
  subst c3
  have H1 : (some ([] : List Int)) = some r := by rw [if_neg (show ¬ (false = true) by decide)] at H; exact H
  clear H
  have H := H1
  clear H1
  obtain rfl := Option.some.inj H
  go_enter Try.func69, Try.ntmps69
  go_wp2_with (first | ((with_reducible refine gA_ (f := 107) rfl ?_); refine gL_ (some 7) Try.func107 #[.slice A0 l0.length c0] rfl qa_ ?_; (with_reducible refine (Z49.calls k _ _ l0 false _ (cc_ HR0) HC0.out A2.out).mono ?_); rintro e w17 ⟨rfl, hb⟩; refine ⟨_, rfl, ?_⟩; replace HB := b1_ hb; clear hb))
  go_ret
  exact ⟨_, qb_, by first | exact Kd.R_nil _ _ _ _ _ | exact Kd.N_nil _ _ _ _ _ | exact Kd.V_nil _ _ _ _ _ | exact Kd.Q_nil _ _ _ _ _ | exact Kd.S_nil _ _ _ _ _, hB_⟩
def Z15.f (k : Nat) (l0_0 : List Int) (l0_1 : List Int) : Option (List Int × List Int × Bool) := (Z29.f k l0_0 l0_1).bind fun t350 => (if t350 = true then ((Z38.f l0_0).bind fun t351 => ((Z18.f k l0_0).bind fun t354 => ((Z37.f k t354 l0_1).bind fun t357 => (some (t351, t357, true))))) else (some (([] : List Int), ([] : List Int), false)))
theorem Z15.mono : ∀ a0 a1 k, LeO (Z15.f k a0 a1) (Z15.f (k + 1) a0 a1) := by
 intro a0 a1 k
 unfold Z15.f
 repeat' first|exact Z18.mono _ _|exact Z29.mono _ _ _|exact Z37.mono _ _ _|exact lo_|refine LeO.ite ?_ ?_|refine LeO.bind ?_ (fun _ => ?_)
def Z15.T3 : Bool × List (List Nat × List Nat) := (true, [([], []), ([0], [0]), ([1], [1]), ([], []), ([3], [3]), ([4, 2], [4]), ([], []), ([6], [6]), ([5, 7, 5], [5, 7]), ([2, 8], [2, 8]), ([9, 8, 0, 1, 2, 3, 4, 5, 6, 7, 8, 9], [9]), ([10, 0, 1, 2, 3, 4, 5, 6, 7, 8, 9, 10], [])])
def Z15.B3 : List Nat := [0, 1, 3, 0, 8, 31, 0, 64, 255, 511, 1023, 2047]
theorem Z15.tab3 : rtab .any (opsOf Try.f22 3) = Z15.T3 := by kernel_rfl
theorem Z15.bits3 : waitsOk Z15.T3.2 Z15.B3 = true := by kernel_rfl
set_option maxHeartbeats 8000000 in
set_option maxRecDepth 100000 in
theorem Z15.calls (k : Nat) (A0_0 : Option Addr) (c0_0 : Nat) (l0_0 : List Int) (A0_1 : Option Addr) (c0_1 : Nat) (l0_1 : List Int) (r1 : List Int) (r2 : List Int) (r3 : Bool) (w : World) (hr0_0 : Kd.C (Kd.int .i64) w A0_0 l0_0.length l0_0) (hc0_0 : l0_0.length ≤ c0_0) (hr0_1 : Kd.C (Kd.int .i64) w A0_1 l0_1.length l0_1) (hc0_1 : l0_1.length ≤ c0_1) (h : Z15.f k l0_0 l0_1 = some (r1, r2, r3)) :
  Calls Try.prog 22 #[.agg #[.slice A0_0 l0_0.length c0_0, .slice A0_1 l0_1.length c0_1]] w fun e w' => ∃ v0_ v1_ : Value, e = .returned (.tuple #[.agg #[v0_, v1_], .bool r3]) ∧ Kd.R (Kd.int .i64) 3 w' w.heap.size (fun k_ => some k_ ≠ (v1_ : Value).ownBlock) v0_ r1 ∧ Kd.R (Kd.int .i64) 3 w' w.heap.size (fun k_ => some k_ ≠ (v0_ : Value).ownBlock) v1_ r2 ∧ Below w.heap.size w w' := by
 have hu25 := Try.underlying25
 have HR0_0 := A_ hr0_0
 have HC0_0 := A_ hc0_0
 clear hr0_0 hc0_0
 have HR0_1 := A_ hr0_1
 have HC0_1 := A_ hc0_1
 clear hr0_1 hc0_1
 have HB := A_ (Below.refl w.heap.size w)
 have H := h
 unfold Z15.f at H
 clear h
 obtain ⟨t350, A2, H⟩ := bi_ H
 by_cases c3 : t350 = true
 ·subst c3
  rw [if_pos rfl] at H
  obtain ⟨t351, A4, H⟩ := bi_ H
  obtain ⟨t354, A5, H⟩ := bi_ H
  obtain ⟨t357, A6, H⟩ := bi_ H
  simp only [Option.some.injEq, Prod.mk.injEq] at H
  obtain ⟨rfl, rfl, rfl⟩ := H
  go_enter Try.func22, Try.ntmps22
  try go_wp2_with (first | ((with_reducible refine gB_ (N := 1) rfl ?_); refine bx_ 1 #[.slice A0_0 l0_0.length c0_0, .slice A0_1 l0_1.length c0_1] 25 ?_; intro gb348 hg w7 hbox hb; have BK348 := A_ hbox; have GW348 := gw_ w hg; have GE348 := GW348; replace HB := b1_ hb; clear hb hbox hg) | ((with_reducible refine gB_ (N := 2) rfl ?_); refine bx_ 2 #[.slice none 0 0, .slice none 0 0] 25 ?_; intro gb349 hg w8 hbox hb; have BK349 := A_ hbox; have GW349 := gw_ w hg; have GE349 := GW349; replace HB := b1_ hb; have NB348_349 := gN_ BK348 hg; have NB349_348 := gP_ BK348 hg; replace BK348 := bb_ BK348 hb; clear hb hbox hg; have hnb9 := NB348_349.out; have hnc9 := NB349_348.out; obtain ⟨hcz10_0, hcz10_1, hfz10_0, hfz10_1⟩ := c2_ BK348) | ((with_reducible refine gA_ (f := 66) rfl ?_); refine gL_ (some 5) Try.func66 #[.agg #[.slice A0_0 l0_0.length c0_0, .slice A0_1 l0_1.length c0_1]] rfl qa_ ?_; (with_reducible refine (Z29.calls k _ _ l0_0 _ _ l0_1 true _ (cb_ HR0_0) HC0_0.out (cb_ HR0_1) HC0_1.out A2.out).mono ?_); rintro e w11 ⟨rfl, hb⟩; refine ⟨_, rfl, ?_⟩; replace BK348 := bb_ BK348 hb; replace BK349 := bb_ BK349 hb; replace HB := b1_ hb; clear hb))
  replace BK348 := A_ (kB_ BK348.out)
  replace BK349 := A_ (kB_ BK349.out)
  replace HB := A_ (bC_ HB.out)
  refine start_ (n := 12) (S := fun w' => w'.cell? ⟨gb348, 0, none⟩ = some (.slice A0_0 l0_0.length c0_0) ∧ w'.cell? ⟨gb348, 1, none⟩ = some (.slice A0_1 l0_1.length c0_1)) (ds := []) (bl_ 12 0) (by kernel_rfl) rfl (by kernel_rfl) ⟨cz0_ BK348, cz1_ BK348⟩ (fun hHeld => ?_); refine with_tabW Z15.tab3 Z15.bits3 (fun HT_ HW_ => ?_)
  generalize w11.drew = w12 at BK348 BK349 HB hHeld ⊢
  refine pu_ 0 (some 8) (bl_ 12 1) HT_ ?_
  refine pu_ 3 (some 11) (bl_ 12 9) HT_ ?_
  refine pu_ 6 (some 14) (bl_ 12 73) HT_ ?_
  refine ta_ 1 (some 9) (bl_ 12 75) HT_ HW_ hHeld ?_
  refine ta_ 4 (some 12) (bl_ 12 91) HT_ HW_ hHeld ?_
  refine ta_ 7 (some 15) (bl_ 12 219) HT_ HW_ hHeld ?_
  refine on_ 2 (some 10) (bl_ 12 223) HT_ (fun K hK => ?_)
  refine gO_ Try.func67 #[.slice A0_0 l0_0.length c0_0] (by rfl) rfl rfl qa_ ?_
  with_reducible refine (Z38.calls _ _ l0_0 t351 _ (cb_ HR0_0) HC0_0.out A4.out).mono ?_
  rintro e w13 ⟨v352, rfl, ho0, hb⟩
  refine ⟨_, rfl, ?_⟩
  have HO353 := rl_ w ho0
  replace BK348 := bb_ BK348 hb
  replace BK349 := bb_ BK349 hb
  replace HB := b1_ hb
  clear hb ho0
  refine hK.out _ _ ⟨cz0_ BK348, cz1_ BK348⟩ (fun hHeld => ?_)
  clear hK K
  refine no_ (some 10) ?_
  refine on_ 5 (some 13) (bl_ 12 255) HT_ (fun K hK => ?_)
  refine gO_ Try.func69 #[.slice A0_0 l0_0.length c0_0] (by rfl) rfl rfl qa_ ?_
  with_reducible refine (Z18.calls k _ _ l0_0 t354 _ (cb_ HR0_0) HC0_0.out A5.out).mono ?_
  rintro e w14 ⟨v355, rfl, ho0, hb⟩
  refine ⟨_, rfl, ?_⟩
  have HO356 := A_ (rE_ (Kd.R_new' ho0 (Kd.R_lt (rr_ HO353))) (bF_ hB_))
  replace HO353 := A_ (Kd.R_elder' (rr_ HO353) (Kd.R_base ho0) hb)
  replace BK348 := bb_ BK348 hb
  replace BK349 := bb_ BK349 hb
  replace HB := b1_ hb
  clear hb ho0
  obtain ⟨Ao15, co15, eo15⟩ := Kd.R_slice HO356.out
  (first | subst eo15 | (injection eo15 with f1_ f2_ f3_; have f4_ := f1_.symm; have f5_ := f3_.symm; clear f1_ f2_ f3_; subst f4_; subst f5_))
  refine hK.out _ _ ⟨cz0_ BK348, cz1_ BK348⟩ (fun hHeld => ?_)
  clear hK K
  refine no_ (some 13) ?_
  refine on_ 8 (some 16) (bl_ 12 511) HT_ (fun K hK => ?_)
  refine gO_ Try.func68 #[.slice Ao15 t354.length co15, .slice A0_1 l0_1.length c0_1] (by rfl) rfl rfl qa_ ?_
  with_reducible refine (Z37.calls k _ _ t354 _ _ l0_1 t357 _ (cr_ HO356) ((Kd.R_reads' HO356.out).2.1) (cb_ HR0_1) HC0_1.out A6.out).mono ?_
  rintro e w16 ⟨v358, rfl, ho0, hb⟩
  refine ⟨_, rfl, ?_⟩
  have HO359 := A_ (rE_ (Kd.R_new' (Kd.R_new' ho0 (Kd.R_lt (rr_ HO353))) (Kd.R_lt (rr_ HO356))) (bF_ hB_))
  replace HO353 := A_ (Kd.R_elder' (rr_ HO353) (Kd.R_base ho0) hb)
  replace HO356 := A_ (Kd.R_elder' (rr_ HO356) (Kd.R_base ho0) hb)
  replace BK348 := bb_ BK348 hb
  replace BK349 := bb_ BK349 hb
  replace HB := b1_ hb
  clear hb ho0
  obtain ⟨Ao17, co17, eo17⟩ := Kd.R_slice HO359.out
  (first | subst eo17 | (injection eo17 with f1_ f2_ f3_; have f4_ := f1_.symm; have f5_ := f3_.symm; clear f1_ f2_ f3_; subst f4_; subst f5_))
  obtain ⟨Ao18, co18, eo18⟩ := Kd.R_slice HO353.out
  (first | subst eo18 | (injection eo18 with f1_ f2_ f3_; have f4_ := f1_.symm; have f5_ := f3_.symm; clear f1_ f2_ f3_; subst f4_; subst f5_))
  refine hK.out _ _ ⟨cz0_ BK348, cz1_ BK348⟩ (fun hHeld => ?_)
  clear hK K
  refine no_ (some 16) ?_
  refine pu_ 9 (some 17) (bl_ 12 1023) HT_ ?_
  refine on_ 10 (none) (bl_ 12 2047) HT_ (fun K hK => ?_)
  have hs19 : w16.cell? ⟨gb349, 0, none⟩ = some (.slice none 0 0) := cz0_ BK349
  have hfs19 := kD_ BK349.out 0
  have hns19_0 := NB348_349.out
  have hms19_0 := NB349_348.out
  have hs20 : w16.cell? ⟨gb349, 1, none⟩ = some (.slice none 0 0) := cz1_ BK349
  have hfs20 := kD_ BK349.out 1
  have hns20_0 := NB348_349.out
  have hms20_0 := NB349_348.out
  refine skip_ (w1 := ?_) (by rfl) rfl ?_ ?_
  rotate_left
  ·go_simp
   rfl
  refine hK.out _ _ ⟨((cell_far (p := ⟨gb349, _, none⟩) NB348_349.out _).trans (((cell_far (p := ⟨gb349, _, none⟩) NB348_349.out _).trans (hHeld.1)))), ((cell_far (p := ⟨gb349, _, none⟩) NB348_349.out _).trans (((cell_far (p := ⟨gb349, _, none⟩) NB348_349.out _).trans (hHeld.2))))⟩ (fun hHeld => ?_)
  clear hK K
  refine pu_ 11 (some 3) (bl_ 12 4095) HT_ ?_
  refine done_ (done_of HT_.out (by kernel_rfl)) ?_
  try go_wp2
  refine bodyPost_ret (results_ct rfl _ _ gb349 25 #[.slice Ao18 t351.length co18, .slice Ao17 t357.length co17] (0, 0) _ rfl qp_ Try.underlying25 rfl (by kernel_rfl)) rfl ?_
  exact ⟨_, _, qb_, (rw_ (Kd.R_mono (fa_ HO353 BK349) (fun _ hk => hk.2))), (rw_ (Kd.R_mono (fa_ HO359 BK349) (fun _ hk => hk.1.2))), hB_⟩
 ·replace c3 := Bool.eq_false_iff.mpr c3
  subst c3
  have H1 : (some (([] : List Int), ([] : List Int), false)) = some (r1, r2, r3) := by rw [if_neg (show ¬ (false = true) by decide)] at H; exact H
  clear H
  have H := H1
  clear H1
  simp only [Option.some.injEq, Prod.mk.injEq] at H
  obtain ⟨rfl, rfl, rfl⟩ := H
  go_enter Try.func22, Try.ntmps22
  go_wp2_with (first | ((with_reducible refine gB_ (N := 1) rfl ?_); refine bx_ 1 #[.slice A0_0 l0_0.length c0_0, .slice A0_1 l0_1.length c0_1] 25 ?_; intro gb348 hg w21 hbox hb; have BK348 := A_ hbox; have GW348 := gw_ w hg; have GE348 := GW348; replace HB := b1_ hb; clear hb hbox hg) | ((with_reducible refine gB_ (N := 2) rfl ?_); refine bx_ 2 #[.slice none 0 0, .slice none 0 0] 25 ?_; intro gb349 hg w22 hbox hb; have BK349 := A_ hbox; have GW349 := gw_ w hg; have GE349 := GW349; replace HB := b1_ hb; have NB348_349 := gN_ BK348 hg; have NB349_348 := gP_ BK348 hg; replace BK348 := bb_ BK348 hb; clear hb hbox hg; have hnb23 := NB348_349.out; have hnc23 := NB349_348.out; obtain ⟨hcz24_0, hcz24_1, hfz24_0, hfz24_1⟩ := c2_ BK348) | ((with_reducible refine gA_ (f := 66) rfl ?_); refine gL_ (some 5) Try.func66 #[.agg #[.slice A0_0 l0_0.length c0_0, .slice A0_1 l0_1.length c0_1]] rfl qa_ ?_; (with_reducible refine (Z29.calls k _ _ l0_0 _ _ l0_1 false _ (cb_ HR0_0) HC0_0.out (cb_ HR0_1) HC0_1.out A2.out).mono ?_); rintro e w25 ⟨rfl, hb⟩; refine ⟨_, rfl, ?_⟩; replace BK348 := bb_ BK348 hb; replace BK349 := bb_ BK349 hb; replace HB := b1_ hb; clear hb; obtain ⟨hcz26_0, hcz26_1, hfz26_0, hfz26_1⟩ := c2_ BK349))
  refine bodyPost_ret (results_ct rfl _ _ gb349 25 #[.slice none 0 0, .slice none 0 0] (0, 0) _ rfl qp_ Try.underlying25 rfl (by kernel_rfl)) rfl ?_
  exact ⟨_, _, qb_, by first | exact Kd.R_nil _ _ _ _ _ | exact Kd.N_nil _ _ _ _ _ | exact Kd.V_nil _ _ _ _ _ | exact Kd.Q_nil _ _ _ _ _ | exact Kd.S_nil _ _ _ _ _, by first | exact Kd.R_nil _ _ _ _ _ | exact Kd.N_nil _ _ _ _ _ | exact Kd.V_nil _ _ _ _ _ | exact Kd.Q_nil _ _ _ _ _ | exact Kd.S_nil _ _ _ _ _, hB_⟩
end Go.Proofs.Ytcggfjpnfodbaaa.A
end
section
/- A map of two keys, as it is filled: look-ups and stores. No conditions. -/
namespace Go.Proofs.Ytcggfjpnfodbaaa.M
set_option linter.unusedVariables false
set_option linter.unusedSimpArgs false
open Go Go.RowKit Go.Proofs.YtcggfjpnfodbaaaW.PrintWords Go.Proofs.YtcggfjpnfodbaaaW.PrintLast Go.Proofs.YtcggfjpnfodbaaaW.PrintMore Go.Proofs.Ytcggfjpnfodbaaa.A Go.MapKept
def mapO (n : Nat) (vT vS : Value) : Obj := .map ((#[⟨.int .u8 84, vT, 0⟩, ⟨.int .u8 83, vS, 1⟩] : Array MapEntry).extract 0 n) n
def mapV (n c : Nat) (vT vS : Value) : Value := if c = 84 then (if 1 ≤ n then vT else .slice none 0 0) else if 2 ≤ n then vS else .slice none 0 0
theorem key_u8 (c : Int) : IsKey (.int .u8) (.int .u8 c) := rfl
theorem map_look {w : World} {b : Nat} {es : Array MapEntry} {c : Nat} (hb : w.heap[b]? = some (.map es c)) (kk : Int) (r : Option (Nat × Value)) (hf : Instr.findNow (.int .u8) (.int .u8 kk) es.toList 0 = some r) :
  (Instr.lookup 67 (.map (some b)) (.int .u8 kk) false).run Try.prog w = .ok (match r with | some x => x.2 | none => .slice none 0 0) w := by
 have ht := Try.underlying67
 have hk : Try.prog.underlying 5 = some (.int .u8) := Try.underlying5
 have h1 := Go.MapKept.run_findKey (P := Try.prog) (w := w) hk hf
 have hz : (zeroValue 23).run Try.prog w = .ok (.slice none 0 0) w := by kernel_rfl
 cases r with
 | none => simp [Instr.lookup, run_underlying ht, Go.MapKept.run_getObj_map hb, Go.MapKept.run_checkKey hk (key_u8 kk), h1, hz, Result.andThen]
 | some x => simp [Instr.lookup, run_underlying ht, Go.MapKept.run_getObj_map hb, Go.MapKept.run_checkKey hk (key_u8 kk), h1, hz, Result.andThen]
theorem map_push {w : World} {b : Nat} {es : Array MapEntry} {c : Nat} (hb : w.heap[b]? = some (.map es c)) (kk : Int) (hf : Instr.findNow (.int .u8) (.int .u8 kk) es.toList 0 = some none) (v : Value) :
  (Instr.mapUpdate 67 (.map (some b)) (.int .u8 kk) v).run Try.prog w = .ok () { w with heap := w.heap.setIfInBounds b (.map (es.push ⟨.int .u8 kk, v, c⟩) (c + 1)) } := by
 have ht := Try.underlying67
 have hk : Try.prog.underlying 5 = some (.int .u8) := Try.underlying5
 have h1 := Go.MapKept.run_findKey (P := Try.prog) (w := w) hk hf
 simp [Instr.mapUpdate, run_underlying ht, Go.MapKept.run_getObj_map hb, Go.MapKept.run_checkKey hk (key_u8 kk), h1, Go.MapKept.run_setObj_map _ hb, Result.andThen]
theorem map_turn {w : World} {b : Nat} {es : Array MapEntry} {c : Nat} (hb : w.heap[b]? = some (.map es c)) (kk : Int) (i : Nat) (u v : Value) (hf : Instr.findNow (.int .u8) (.int .u8 kk) es.toList 0 = some (some (i, u))) (hi : (es[i]?.map (·.key)) = some (.int .u8 kk)) :
  (Instr.mapUpdate 67 (.map (some b)) (.int .u8 kk) v).run Try.prog w = .ok () { w with heap := w.heap.setIfInBounds b (.map (es.modify i fun e => { e with key := .int .u8 kk, val := v }) c) } := by
 have ht := Try.underlying67
 have hk : Try.prog.underlying 5 = some (.int .u8) := Try.underlying5
 have h1 := Go.MapKept.run_findKey (P := Try.prog) (w := w) hk hf
 have h2 := Go.MapKept.run_keyThatStays (P := Try.prog) (w := w) (key_u8 kk)
 simp [Instr.mapUpdate, run_underlying ht, Go.MapKept.run_getObj_map hb, Go.MapKept.run_checkKey hk (key_u8 kk), h1, hi, h2, Go.MapKept.run_setObj_map _ hb, Result.andThen]
def setMap (w : World) (b n : Nat) (vT vS : Value) : World := { w with heap := w.heap.setIfInBounds b (mapO n vT vS) }
theorem look_T {w : World} {b n : Nat} {vT vS : Value} (hb : w.heap[b]? = some (mapO n vT vS)) (hn : n = 0 ∨ n = 1 ∨ n = 2) : (Instr.lookup 67 (.map (some b)) (.int .u8 84) false).run Try.prog w = .ok (mapV n 84 vT vS) w := by
 rcases hn with rfl | rfl | rfl
 ·exact map_look hb 84 none rfl
 ·exact map_look hb 84 (some (0, vT)) rfl
 ·exact map_look hb 84 (some (0, vT)) rfl
theorem look_S {w : World} {b n : Nat} {vT vS : Value} (hb : w.heap[b]? = some (mapO n vT vS)) (hn : n = 0 ∨ n = 1 ∨ n = 2) : (Instr.lookup 67 (.map (some b)) (.int .u8 83) false).run Try.prog w = .ok (mapV n 83 vT vS) w := by
 rcases hn with rfl | rfl | rfl
 ·exact map_look hb 83 none rfl
 ·exact map_look hb 83 none rfl
 ·exact map_look hb 83 (some (1, vS)) rfl
theorem put_T {w : World} {b n : Nat} {vT vS : Value} (hb : w.heap[b]? = some (mapO n vT vS)) (hn : n = 0 ∨ n = 2) (v : Value) : (Instr.mapUpdate 67 (.map (some b)) (.int .u8 84) v).run Try.prog w = .ok () (setMap w b (max n 1) v vS) := by
 rcases hn with rfl | rfl
 ·exact map_push hb 84 rfl v
 ·exact map_turn hb 84 0 vT v rfl rfl
theorem put_S {w : World} {b n : Nat} {vT vS : Value} (hb : w.heap[b]? = some (mapO n vT vS)) (hn : n = 1 ∨ n = 2) (v : Value) : (Instr.mapUpdate 67 (.map (some b)) (.int .u8 83) v).run Try.prog w = .ok () (setMap w b 2 vT v) := by
 rcases hn with rfl | rfl
 ·exact map_push hb 83 rfl v
 ·exact map_turn hb 83 1 vS v rfl rfl
theorem setMap_at {w : World} {b n : Nat} {o : Obj} (hb : w.heap[b]? = some o) (vT vS : Value) : (setMap w b n vT vS).heap[b]? = some (mapO n vT vS) := by
 have := (Array.getElem?_eq_some_iff.1 hb).1
 simp [setMap, this]
theorem setMap_far {w : World} {b n : Nat} (vT vS : Value) {g : Nat} (h : g ≠ b) : (setMap w b n vT vS).heap[g]? = w.heap[g]? := by
 simp only [setMap, Array.getElem?_setIfInBounds]
 rw [if_neg (fun e => h e.symm)]
theorem setMap_grown {w : World} {b n : Nat} (vT vS : Value) : w.grownBy (setMap w b n vT vS) (some b) :=
 ⟨rfl, rfl, rfl, by simp [setMap], fun i _ hi => setMap_far vT vS (fun e => hi (by rw [e]))⟩
theorem setMap_below {w0 w : World} {b n : Nat} (vT vS : Value) (hB : Below w0.heap.size w0 w) (hb : w0.heap.size ≤ b) : Below w0.heap.size w0 (setMap w b n vT vS) :=
 hB.grown (setMap_grown vT vS) hB.size (fun k e => by injection e with e; omega)
end Go.Proofs.Ytcggfjpnfodbaaa.M
end
section
namespace Go.Proofs.Ytcggfjpnfodbaaa.A
open Go.RowKit Go.Proofs.YtcggfjpnfodbaaaW.PrintWords Go.Proofs.YtcggfjpnfodbaaaW.PrintLast Go.Proofs.YtcggfjpnfodbaaaW.PrintMore
attribute [local go_sem] max2_int min2_int max_two min_two max_three min_three max_four min_four
set_option linter.unusedVariables false
set_option linter.unusedSimpArgs false
def Z5.l0 : Nat → List Int → List Int → Int → Int → Option (Bool)
 | 0, _, _, _, _ => none
 | k + 1, x0, x1, x12, x13 => if x13 < x12 then (if 0 ≤ x13 then (if x13 < (x0.length : Int) then (if x13 < (x1.length : Int) then (if (rd x0 x13) = (rd x1 x13) then (Z5.l0 k x0 x1 x12 (wrap64 (x13 + 1))) else (some false)) else (none)) else (none)) else (none)) else (some true)
def Z5.f (k : Nat) (l0 : List Int) (l1 : List Int) : Option (Bool) := if (l0.length : Int) = (l1.length : Int) then (Z5.l0 k l0 l1 (l0.length : Int) 0) else (some false)
theorem Z5.mono_l : ∀ k, (∀ y0 y1 y2 y3, LeO (Z5.l0 k y0 y1 y2 y3) (Z5.l0 (k + 1) y0 y1 y2 y3))
 | 0 => fun _ _ _ _ r h => by simp [Z5.l0] at h
 | k + 1 => by
  have ih0 := Z5.mono_l k
  ·intro y0 y1 y2 y3
   unfold Z5.l0
   repeat' first|exact ih0 _ _ _ _|exact lo_|refine LeO.ite ?_ ?_|refine LeO.bind ?_ (fun _ => ?_)
theorem Z5.mono : ∀ a0 a1 k, LeO (Z5.f k a0 a1) (Z5.f (k + 1) a0 a1) := by
 intro a0 a1 k
 have ih0 := Z5.mono_l k
 unfold Z5.f
 repeat' first|exact ih0 _ _ _ _|exact lo_|refine LeO.ite ?_ ?_|refine LeO.bind ?_ (fun _ => ?_)
set_option maxHeartbeats 8000000 in
set_option maxRecDepth 100000 in
theorem Z5.calls (k : Nat) (A0 : Option Addr) (c0 : Nat) (l0 : List Int) (A1 : Option Addr) (c1 : Nat) (l1 : List Int) (r : Bool) (w : World) (hr0 : Kd.C (Kd.int .i64) w A0 l0.length l0) (hc0 : l0.length ≤ c0) (hr1 : Kd.C (Kd.int .i64) w A1 l1.length l1) (hc1 : l1.length ≤ c1) (h : Z5.f k l0 l1 = some r) :
  Calls Try.prog 116 #[.slice A0 l0.length c0, .slice A1 l1.length c1] w fun e w' => e = .returned (.bool r) ∧ Drawn0 w w' := by
 have HR0 := A_ hr0
 have HC0 := A_ hc0
 clear hr0 hc0
 have HR1 := A_ hr1
 have HC1 := A_ hc1
 clear hr1 hc1
 have H := h
 unfold Z5.f at H
 clear h
 by_cases c3 : (l0.length : Int) = (l1.length : Int)
 ·rw [if_pos c3] at H
  have c3b0 : ((l0.length : Int) == (l1.length : Int)) = true := beq_iff_eq.mpr c3
  have c3b1 : ((l0.length : Int) != (l1.length : Int)) = false := bne_eq_false_iff_eq.mpr c3
  have c3b2 : (l0.length == l1.length) = true := by first | simpa using c3 | (simp at c3 ⊢; omega)
  clear c3
  have H' := A_ H
  clear H
  go_enter Try.func116, Try.ntmps116
  go_wp2
  repeat (go_quiet (fail); try go_wp2)
  go_loopg [13] k (fun kq v13 w' => ∃ (x13_1 : Int), v13 = .int .i64 x13_1 ∧ Aside0 (Z5.l0 kq l0 l1 (l0.length : Int) x13_1 = some r) ∧ Aside0 (kq ≤ k) ∧ Drawn0 w w')
  case atStart => exact ⟨(0), qc_, H', ⟨nA_ _⟩, by repeat (first | exact Drawn0.refl _ | apply Drawn0.step)⟩
  case round =>
   clear H'
   obtain ⟨x13_1, rfl, HA, HK1, ⟨m1, rfl⟩⟩ := hrel
   cases gk with
   | zero => exact absurd HA.out (by simp [Z5.l0])
   | succ k1 =>
    have H := HA.out
    clear HA
    simp only [Z5.l0] at H
    by_cases c4 : x13_1 < (l0.length : Int)
    ·rw [if_pos c4] at H
     have c4b0 := oC_ c4
     clear c4
     have c5 := cp_ H
     replace H := ca_ H
     have c5b0 := oC_ c5
     clear c5
     have c6 := cp_ H
     replace H := ca_ H
     have c6b0 := oC_ c6
     clear c6
     have c7 := cp_ H
     replace H := ca_ H
     have c7b0 := oC_ c7
     clear c7
     by_cases c8 : (rd l0 x13_1) = (rd l1 x13_1)
     ·rw [if_pos c8] at H
      have c8b0 : ((rd l0 x13_1) == (rd l1 x13_1)) = true := beq_iff_eq.mpr c8
      have c8b1 : ((rd l0 x13_1) != (rd l1 x13_1)) = false := bne_eq_false_iff_eq.mpr c8
      clear c8
      have H' := A_ H
      clear H
      have p420 : 0 ≤ (x13_1 : Int) := oB_ qe_
      have q420 : x13_1 < (l0.length : Int) := oB_ qe_
      obtain ⟨ad420, e420, hx420_0⟩ := Kd.at_int HR0.out x13_1 p420 q420
      cases e420
      replace p420 := eq_true p420
      replace q420 := eq_true q420
      have p421 : 0 ≤ (x13_1 : Int) := oB_ qe_
      have q421 : x13_1 < (l1.length : Int) := oB_ qe_
      obtain ⟨ad421, e421, hx421_0⟩ := Kd.at_int HR1.out x13_1 p421 q421
      cases e421
      replace p421 := eq_true p421
      replace q421 := eq_true q421
      go_wp2
      repeat (go_quiet (fail); try go_wp2)
      go_roundg k1
      case measure => have := HK1.out; omega
      case rel => exact ⟨(wrap64 (x13_1 + 1)), qc_, H', ⟨by have := HK1.out; omega⟩, by repeat (first | exact Drawn0.refl _ | apply Drawn0.step)⟩
     ·rw [if_neg c8] at H
      have c8b0 : ((rd l0 x13_1) == (rd l1 x13_1)) = false := beq_eq_false_iff_ne.mpr c8
      have c8b1 : ((rd l0 x13_1) != (rd l1 x13_1)) = true := bne_iff_ne.mpr c8
      obtain rfl := Option.some.inj H
      have p420 : 0 ≤ (x13_1 : Int) := oB_ qe_
      have q420 : x13_1 < (l0.length : Int) := oB_ qe_
      obtain ⟨ad420, e420, hx420_0⟩ := Kd.at_int HR0.out x13_1 p420 q420
      cases e420
      replace p420 := eq_true p420
      replace q420 := eq_true q420
      have p421 : 0 ≤ (x13_1 : Int) := oB_ qe_
      have q421 : x13_1 < (l1.length : Int) := oB_ qe_
      obtain ⟨ad421, e421, hx421_0⟩ := Kd.at_int HR1.out x13_1 p421 q421
      cases e421
      replace p421 := eq_true p421
      replace q421 := eq_true q421
      go_wp2
      repeat (go_quiet (fail); try go_wp2)
      go_ret
      exact ⟨qc_, by repeat (first | exact Drawn0.refl _ | apply Drawn0.step)⟩
    ·rw [if_neg c4] at H
     have c4b0 := oD_ c4
     clear c4
     obtain rfl := Option.some.inj H
     go_wp2
     repeat (go_quiet (fail); try go_wp2)
     go_ret
     exact ⟨qc_, by repeat (first | exact Drawn0.refl _ | apply Drawn0.step)⟩
 ·rw [if_neg c3] at H
  have c3b0 : ((l0.length : Int) == (l1.length : Int)) = false := beq_eq_false_iff_ne.mpr c3
  have c3b1 : ((l0.length : Int) != (l1.length : Int)) = true := bne_iff_ne.mpr c3
  have c3b2 : (l0.length == l1.length) = false := by first | simpa using c3 | (simp at c3 ⊢; omega)
  obtain rfl := Option.some.inj H
  go_enter Try.func116, Try.ntmps116
  go_wp2
  repeat (go_quiet (fail); try go_wp2)
  go_ret
  exact ⟨qc_, by repeat (first | exact Drawn0.refl _ | apply Drawn0.step)⟩
def Z36.f (k : Nat) (l0 : List Int) (l1 : List Int) : Option (Bool) := (Z5.f k l0 l1).bind fun t422 => (some t422)
theorem Z36.mono : ∀ a0 a1 k, LeO (Z36.f k a0 a1) (Z36.f (k + 1) a0 a1) := by
 intro a0 a1 k
 unfold Z36.f
 repeat' first|exact Z5.mono _ _ _|exact lo_|refine LeO.ite ?_ ?_|refine LeO.bind ?_ (fun _ => ?_)
set_option maxHeartbeats 8000000 in
set_option maxRecDepth 100000 in
theorem Z36.calls (k : Nat) (A0 : Option Addr) (c0 : Nat) (l0 : List Int) (A1 : Option Addr) (c1 : Nat) (l1 : List Int) (r : Bool) (w : World) (hr0 : Kd.C (Kd.int .i64) w A0 l0.length l0) (hc0 : l0.length ≤ c0) (hr1 : Kd.C (Kd.int .i64) w A1 l1.length l1) (hc1 : l1.length ≤ c1) (h : Z36.f k l0 l1 = some r) :
  Calls Try.prog 78 #[.slice A0 l0.length c0, .slice A1 l1.length c1] w fun e w' => e = .returned (.bool r) ∧ Drawn0 w w' := by
 have HR0 := A_ hr0
 have HC0 := A_ hc0
 clear hr0 hc0
 have HR1 := A_ hr1
 have HC1 := A_ hc1
 clear hr1 hc1
 have H := h
 unfold Z36.f at H
 clear h
 obtain ⟨t422, A3, H⟩ := bi_ H
 obtain rfl := Option.some.inj H
 go_enter Try.func78, Try.ntmps78
 go_wp2_with (first | ((with_reducible refine gA_ (f := 116) rfl ?_); refine gL_ (some 7) Try.func116 #[.slice A0 l0.length c0, .slice A1 l1.length c1] rfl qa_ ?_; (with_reducible refine (Z5.calls k _ _ l0 _ _ l1 t422 _ (cc_ HR0) HC0.out (cc_ HR1) HC1.out A3.out).mono ?_); rintro e w' ⟨rfl, ⟨nd, rfl⟩⟩; refine ⟨_, rfl, ?_⟩))
 go_ret
 exact ⟨qc_, by repeat (first | exact Drawn0.refl _ | apply Drawn0.step)⟩
def Z20.f (k : Nat) (l0_0 : List Int) (l0_1 : List Int) (l1_0 : List Int) (l1_1 : List Int) : Option (Bool) := (Z36.f k l0_0 l1_0).bind fun t425 => (if t425 = true then ((Z36.f k l0_1 l1_1).bind fun t426 => (some t426)) else (some false))
theorem Z20.mono : ∀ a0 a1 a2 a3 k, LeO (Z20.f k a0 a1 a2 a3) (Z20.f (k + 1) a0 a1 a2 a3) := by
 intro a0 a1 a2 a3 k
 unfold Z20.f
 repeat' first|exact Z36.mono _ _ _|exact lo_|refine LeO.ite ?_ ?_|refine LeO.bind ?_ (fun _ => ?_)
set_option maxHeartbeats 8000000 in
set_option maxRecDepth 100000 in
theorem Z20.calls (k : Nat) (A0_0 : Option Addr) (c0_0 : Nat) (l0_0 : List Int) (A0_1 : Option Addr) (c0_1 : Nat) (l0_1 : List Int) (A1_0 : Option Addr) (c1_0 : Nat) (l1_0 : List Int) (A1_1 : Option Addr) (c1_1 : Nat) (l1_1 : List Int) (r : Bool) (w : World) (hr0_0 : Kd.C (Kd.int .i64) w A0_0 l0_0.length l0_0) (hc0_0 : l0_0.length ≤ c0_0) (hr0_1 : Kd.C (Kd.int .i64) w A0_1 l0_1.length l0_1) (hc0_1 : l0_1.length ≤ c0_1) (hr1_0 : Kd.C (Kd.int .i64) w A1_0 l1_0.length l1_0) (hc1_0 : l1_0.length ≤ c1_0) (hr1_1 : Kd.C (Kd.int .i64) w A1_1 l1_1.length l1_1) (hc1_1 : l1_1.length ≤ c1_1) (h : Z20.f k l0_0 l0_1 l1_0 l1_1 = some r) :
  Calls Try.prog 29 #[.agg #[.slice A0_0 l0_0.length c0_0, .slice A0_1 l0_1.length c0_1], .agg #[.slice A1_0 l1_0.length c1_0, .slice A1_1 l1_1.length c1_1]] w fun e w' => e = .returned (.bool r) ∧ Below w.heap.size w w' := by
 have hu25 := Try.underlying25
 have HR0_0 := A_ hr0_0
 have HC0_0 := A_ hc0_0
 clear hr0_0 hc0_0
 have HR0_1 := A_ hr0_1
 have HC0_1 := A_ hc0_1
 clear hr0_1 hc0_1
 have HR1_0 := A_ hr1_0
 have HC1_0 := A_ hc1_0
 clear hr1_0 hc1_0
 have HR1_1 := A_ hr1_1
 have HC1_1 := A_ hc1_1
 clear hr1_1 hc1_1
 have HB := A_ (Below.refl w.heap.size w)
 have H := h
 unfold Z20.f at H
 clear h
 obtain ⟨t425, A3, H⟩ := bi_ H
 by_cases c4 : t425 = true
 ·subst c4
  rw [if_pos rfl] at H
  obtain ⟨t426, A5, H⟩ := bi_ H
  obtain rfl := Option.some.inj H
  go_enter Try.func29, Try.ntmps29
  go_wp2_with (first | ((with_reducible refine gB_ (N := 2) rfl ?_); refine bx_ 2 #[.slice A0_0 l0_0.length c0_0, .slice A0_1 l0_1.length c0_1] 25 ?_; intro gb423 hg w6 hbox hb; have BK423 := A_ hbox; have GW423 := gw_ w hg; have GE423 := GW423; replace HB := b1_ hb; clear hb hbox hg) | ((with_reducible refine gB_ (N := 3) rfl ?_); refine bx_ 3 #[.slice A1_0 l1_0.length c1_0, .slice A1_1 l1_1.length c1_1] 25 ?_; intro gb424 hg w7 hbox hb; have BK424 := A_ hbox; have GW424 := gw_ w hg; have GE424 := GW424; replace HB := b1_ hb; have NB423_424 := gN_ BK423 hg; have NB424_423 := gP_ BK423 hg; replace BK423 := bb_ BK423 hb; clear hb hbox hg; have hnb8 := NB423_424.out; have hnc8 := NB424_423.out; obtain ⟨hcz9_0, hcz9_1, hfz9_0, hfz9_1⟩ := c2_ BK423; obtain ⟨hcz10_0, hcz10_1, hfz10_0, hfz10_1⟩ := c2_ BK424) | ((with_reducible refine gA_ (f := 78) rfl ?_); refine gL_ (some 9) Try.func78 #[.slice A0_0 l0_0.length c0_0, .slice A1_0 l1_0.length c1_0] rfl qa_ ?_; (with_reducible refine (Z36.calls k _ _ l0_0 _ _ l1_0 true _ (cb_ HR0_0) HC0_0.out (cb_ HR1_0) HC1_0.out A3.out).mono ?_); rintro e w' ⟨rfl, ⟨nd, rfl⟩⟩; refine ⟨_, rfl, ?_⟩) | (go_at_call 78; (with_reducible refine (Z36.calls k _ _ l0_1 _ _ l1_1 t426 _ (cw_ (cD_ HR0_1.out hB_)) HC0_1.out (cw_ (cD_ HR1_1.out hB_)) HC1_1.out A5.out).mono ?_); rintro e w' ⟨rfl, ⟨nd, rfl⟩⟩))
  go_ret
  exact ⟨qb_, hB_⟩
 ·replace c4 := Bool.eq_false_iff.mpr c4
  subst c4
  have H1 : (some false) = some r := by rw [if_neg (show ¬ (false = true) by decide)] at H; exact H
  clear H
  have H := H1
  clear H1
  obtain rfl := Option.some.inj H
  go_enter Try.func29, Try.ntmps29
  go_wp2_with (first | ((with_reducible refine gB_ (N := 2) rfl ?_); refine bx_ 2 #[.slice A0_0 l0_0.length c0_0, .slice A0_1 l0_1.length c0_1] 25 ?_; intro gb423 hg w11 hbox hb; have BK423 := A_ hbox; have GW423 := gw_ w hg; have GE423 := GW423; replace HB := b1_ hb; clear hb hbox hg) | ((with_reducible refine gB_ (N := 3) rfl ?_); refine bx_ 3 #[.slice A1_0 l1_0.length c1_0, .slice A1_1 l1_1.length c1_1] 25 ?_; intro gb424 hg w12 hbox hb; have BK424 := A_ hbox; have GW424 := gw_ w hg; have GE424 := GW424; replace HB := b1_ hb; have NB423_424 := gN_ BK423 hg; have NB424_423 := gP_ BK423 hg; replace BK423 := bb_ BK423 hb; clear hb hbox hg; have hnb13 := NB423_424.out; have hnc13 := NB424_423.out; obtain ⟨hcz14_0, hcz14_1, hfz14_0, hfz14_1⟩ := c2_ BK423; obtain ⟨hcz15_0, hcz15_1, hfz15_0, hfz15_1⟩ := c2_ BK424) | ((with_reducible refine gA_ (f := 78) rfl ?_); refine gL_ (some 9) Try.func78 #[.slice A0_0 l0_0.length c0_0, .slice A1_0 l1_0.length c1_0] rfl qa_ ?_; (with_reducible refine (Z36.calls k _ _ l0_0 _ _ l1_0 false _ (cb_ HR0_0) HC0_0.out (cb_ HR1_0) HC1_0.out A3.out).mono ?_); rintro e w' ⟨rfl, ⟨nd, rfl⟩⟩; refine ⟨_, rfl, ?_⟩))
  go_ret
  exact ⟨qb_, hB_⟩
end Go.Proofs.Ytcggfjpnfodbaaa.A
end
section
/- The place of a surface in a list: the walk of the program's look-up. No conditions. -/
namespace Go.Proofs.Ytcggfjpnfodbaaa.M
set_option linter.unusedVariables false
set_option linter.unusedSimpArgs false
open Go Go.RowKit Go.Proofs.YtcggfjpnfodbaaaW.PrintWords Go.Proofs.YtcggfjpnfodbaaaW.PrintLast Go.Proofs.YtcggfjpnfodbaaaW.PrintMore Go.Proofs.Ytcggfjpnfodbaaa.A
def idxS (k : Nat) (r u : List Int) : List S25 → Nat → Option Int
 | [], _ => some (-1)
 | x :: xs, i => (Z20.f k x.f0 x.f1 r u).bind fun b => if b = true then some (i : Int) else idxS k r u xs (i + 1)
def indexO (k : Nat) (l : List S25) (r u : List Int) : Option Int := if l.length < 4611686018427387904 then idxS k r u l 0 else none
set_option maxHeartbeats 8000000 in
set_option maxRecDepth 100000 in
theorem index_closure (k : Nat) (gs : Nat) (A0 : Option Addr) (c0 : Nat) (l0 : List Int) (A1 : Option Addr) (c1 : Nat) (l1 : List Int) (B0 : Option Addr) (d0 : Nat) (r : List Int) (B1 : Option Addr) (d1 : Nat) (u : List Int) (b : Bool) (w : World)
  (h0 : Kd.C (Kd.int .i64) w A0 l0.length l0) (g0 : l0.length ≤ c0) (h1 : Kd.C (Kd.int .i64) w A1 l1.length l1) (g1 : l1.length ≤ c1) (h2 : Kd.C (Kd.int .i64) w B0 r.length r) (g2 : r.length ≤ d0) (h3 : Kd.C (Kd.int .i64) w B1 u.length u) (g3 : u.length ≤ d1)
  (hs : w.heap[gs]? = some (.cells #[.slice B0 r.length d0, .slice B1 u.length d1] 25 (0, 0))) (h : Z20.f k l0 l1 r u = some b) :
  Calls Try.prog 109 #[.agg #[.slice A0 l0.length c0, .slice A1 l1.length c1], .pointer (some ⟨gs, 0, none⟩)] w fun e w' => e = .returned (.bool b) ∧ Below w.heap.size w w' := by
 have hu := Try.underlying25
 have H0 := Aside0.mk h0; have H1 := Aside0.mk h1; have H2 := Aside0.mk h2; have H3 := Aside0.mk h3
 have G0 := Aside0.mk g0; have G1 := Aside0.mk g1; have G2 := Aside0.mk g2; have G3 := Aside0.mk g3
 have BS := Aside0.mk hs; have HA := Aside0.mk h
 clear h0 h1 h2 h3 g0 g1 g2 g3 hs h
 have HB := Aside0.mk (Below.refl w.heap.size w)
 go_enter Try.func109, Try.ntmps109
 go_wp2_with (first | ((with_reducible refine gate_dst (N := 2) rfl ?_); refine bx_ 2 #[.slice A0 l0.length c0, .slice A1 l1.length c1] 25 ?_; intro gb hg w2 hbox hb; have BK := Aside0.mk hbox; have BT := bb_ BS hb; replace HB := b1_ hb; clear hb hbox hg; obtain ⟨hcz0, hcz1, hfz0, hfz1⟩ := c2_ BK; obtain ⟨hcy0, hcy1, hfy0, hfy1⟩ := c2_ BT) | ((with_reducible refine gate_callee (f := 29) rfl ?_); refine gL_ (some 6) Try.func29 #[.agg #[.slice A0 l0.length c0, .slice A1 l1.length c1], .agg #[.slice B0 r.length d0, .slice B1 u.length d1]] rfl qa_ ?_; (with_reducible refine (Z20.calls k _ _ l0 _ _ l1 _ _ r _ _ u b _ (cb_ H0) G0.out (cb_ H1) G1.out (cb_ H2) G2.out (cb_ H3) G3.out HA.out).mono ?_); rintro e w3 ⟨rfl, hb⟩; refine ⟨_, rfl, ?_⟩; replace HB := b1_ hb; clear hb))
 go_ret
 exact ⟨qb_, hB_⟩
set_option maxHeartbeats 8000000 in
set_option maxRecDepth 100000 in
theorem index_main (k : Nat) (gf : Nat) (lb : Array Value) (eg : ∀ args w, (callFunc gf args).run Try.prog w = .ok (.enter gf args) w) (A0 : Option Addr) (c0 : Nat) (l0 : List S25) (r u : List Int) (j : Int) (w : World) (hr0 : Kd.C k25 w A0 l0.length l0) (hc0 : l0.length ≤ c0) (h : indexO k l0 r u = some j)
  (hcl : ∀ (A0 : Option Addr) (c0 : Nat) (l0 : List Int) (A1 : Option Addr) (c1 : Nat) (l1 : List Int) (b : Bool) (w1 : World), Below w.heap.size w w1 → Kd.C (Kd.int .i64) w1 A0 l0.length l0 → l0.length ≤ c0 → Kd.C (Kd.int .i64) w1 A1 l1.length l1 → l1.length ≤ c1 → Z20.f k l0 l1 r u = some b → Calls Try.prog gf (#[.agg #[.slice A0 l0.length c0, .slice A1 l1.length c1]] ++ lb) w1 fun e w' => e = .returned (.bool b) ∧ Below w1.heap.size w1 w') :
  Calls Try.prog 108 #[.slice A0 l0.length c0, .func (.func gf) #[] lb] w fun e w' => e = .returned (.int .i64 j) ∧ Below w.heap.size w w' := by
 have hu := Try.underlying25
 have HR0 := Aside0.mk hr0
 have HC0 := Aside0.mk hc0
 have HB := Aside0.mk (Below.refl w.heap.size w)
 have hsm : l0.length < 4611686018427387904 := by
  unfold indexO at h
  split at h
  ·assumption
  ·cases h
 have H' : Aside0 (idxS k r u (l0.drop 0) 0 = some j) := ⟨by
  unfold indexO at h
  rw [if_pos hsm] at h
  exact h⟩
 clear hr0 hc0 h
 replace hcl := Aside0.mk hcl
 go_enter Try.func108, Try.ntmps108
 go_wp2
 go_loopg [5, 8] l0.length (fun gg _ s8 wr => ∃ kk : Nat, s8 = .int .i64 kk ∧ Aside0 (kk ≤ l0.length) ∧ Aside0 (l0.length - kk ≤ gg) ∧ Aside0 (idxS k r u (l0.drop kk) kk = some j) ∧ Aside0 (Below w.heap.size w wr))
 case atStart => exact ⟨0, rfl, ⟨Nat.zero_le _⟩, ⟨by omega⟩, H', ⟨by repeat (first | (with_reducible first | exact HB.out | apply below_alloc | apply pw_below_drewN | apply below_drew1) | exact HB.out)⟩⟩
 case round =>
  clear H' HB
  obtain ⟨kk, rfl, HK, HG, HA, HB⟩ := hrel
  by_cases hlt : kk < l0.length
  ·have hltz : (kk : Int) < (l0.length : Int) := by omega
   have h0z : (0 : Int) ≤ (kk : Int) := Int.natCast_nonneg kk
   have H := HA.out
   have hdr : l0.drop kk = rd_T25 l0 (kk : Int) :: l0.drop (kk + 1) := by
    rw [List.drop_eq_getElem_cons hlt]
    congr 1
    simp [rd_T25, hlt]
   rw [hdr] at H
   simp only [idxS] at H
   obtain ⟨b, Hb, H⟩ := bi_ H
   obtain ⟨ad1, A1, c1, A2, c2, e1, hx1, hx2, hl1, hi1, hl2, hi2⟩ := at_T25 (Kd.C_below HR0.out HB.out) (kk : Int) h0z hltz
   cases e1
   rw [show ((kk : Int)).toNat = kk from rfl] at hx1 hx2
   have HI1 := Aside0.mk hi1
   have HI2 := Aside0.mk hi2
   have HL1 := Aside0.mk hl1
   have HL2 := Aside0.mk hl2
   clear hi1 hi2 hl1 hl2
   cases b with
   | true =>
    rw [if_pos rfl] at H
    obtain rfl := Option.some.inj H
    clear H
    go_wp2_with (fail)
    refine (hcl.out _ _ (rd_T25 l0 (kk : Int)).f0 _ _ (rd_T25 l0 (kk : Int)).f1 true wr HB.out HI1.out HL1.out HI2.out HL2.out Hb.out).mono ?_
    rintro e w2 ⟨rfl, hb⟩
    have HB2 := Aside0.mk (below_step HB.out hb)
    clear hb
    go_wp2
    go_ret
    exact ⟨rfl, by repeat (first | (with_reducible first | exact HB2.out | apply below_alloc | apply pw_below_drewN | apply below_drew1) | exact HB2.out)⟩
   | false =>
    rw [if_neg (by decide)] at H
    have H2 := Aside0.mk H
    clear H
    go_wp2_with (fail)
    refine (hcl.out _ _ (rd_T25 l0 (kk : Int)).f0 _ _ (rd_T25 l0 (kk : Int)).f1 false wr HB.out HI1.out HL1.out HI2.out HL2.out Hb.out).mono ?_
    rintro e w2 ⟨rfl, hb⟩
    have HB2 := Aside0.mk (below_step HB.out hb)
    clear hb
    go_wp2
    go_roundg (l0.length - (kk + 1))
    case measure => have := HG.out; omega
    case rel => exact ⟨kk + 1, by congr 1, ⟨by omega⟩, ⟨by omega⟩, H2, ⟨by repeat (first | (with_reducible first | exact HB2.out | apply below_alloc | apply pw_below_drewN | apply below_drew1) | exact HB2.out)⟩⟩
  ·have hltz : ¬ (kk : Int) < (l0.length : Int) := by omega
   have H := HA.out
   rw [List.drop_eq_nil_of_le (by omega)] at H
   simp only [idxS] at H
   obtain rfl := Option.some.inj H
   clear H
   go_wp2
   go_ret
   exact ⟨rfl, by repeat (first | (with_reducible first | exact HB.out | apply below_alloc | apply pw_below_drewN | apply below_drew1) | exact HB.out)⟩
set_option maxHeartbeats 8000000 in
set_option maxRecDepth 100000 in
theorem index_calls (k : Nat) (gO : Nat) (A0 : Option Addr) (c0 : Nat) (l0 : List S25) (v1 v2 v3 v4 : Value) (B0 : Option Addr) (d0 : Nat) (r : List Int) (B1 : Option Addr) (d1 : Nat) (u : List Int) (j : Int) (w : World) (hr0 : Kd.C k25 w A0 l0.length l0) (hc0 : l0.length ≤ c0) (h2 : Kd.C (Kd.int .i64) w B0 r.length r) (g2 : r.length ≤ d0) (h3 : Kd.C (Kd.int .i64) w B1 u.length u) (g3 : u.length ≤ d1)
  (hO : w.heap[gO]? = some (.cells #[.slice A0 l0.length c0, v1, v2, v3, v4] 69 (0, 0))) (h : indexO k l0 r u = some j) :
  Calls Try.prog 72 #[.pointer (some ⟨gO, 0, none⟩), .agg #[.slice B0 r.length d0, .slice B1 u.length d1]] w fun e w' => e = .returned (.int .i64 j) ∧ Below w.heap.size w w' := by
 have hu := Try.underlying25
 have H0 := Aside0.mk hr0; have H2 := Aside0.mk h2; have H3 := Aside0.mk h3
 have G0 := Aside0.mk hc0; have G2 := Aside0.mk g2; have G3 := Aside0.mk g3
 have BO := Aside0.mk hO; have HA := Aside0.mk h
 clear hr0 h2 h3 hc0 g2 g3 hO h
 have HB := Aside0.mk (Below.refl w.heap.size w)
 go_enter Try.func72, Try.ntmps72
 go_wp2_with (first | ((with_reducible refine gate_dst (N := 3) rfl ?_); refine bx_ 3 #[.slice B0 r.length d0, .slice B1 u.length d1] 25 ?_; intro gb hg w2 hbox hb; have BK := Aside0.mk hbox; have BP := bb_ BO hb; replace HB := b1_ hb; clear hb hbox hg; have hco0 : w2.cell? ⟨gO, 0, none⟩ = some (.slice A0 l0.length c0) := (blk_cell BP.out 0).trans rfl; have hfo0 := blk_frozen BP.out 0) | ((with_reducible refine gate_callee (f := 108) rfl ?_); refine gL_ (some 10) Try.func108 #[.slice A0 l0.length c0, .func (.func 109) #[] #[.pointer (some ⟨gb, 0, none⟩)]] rfl qa_ ?_; refine (index_main k 109 #[.pointer (some ⟨gb, 0, none⟩)] (fun args w => enters_ Try.func109 (by kernel_rfl) rfl args w) _ _ l0 r u j _ (cb_ H0) G0.out HA.out (fun A0_ c0_ l0_ A1_ c1_ l1_ b_ w1_ hw_ q0_ q1_ q2_ q3_ q4_ => index_closure k gb A0_ c0_ l0_ A1_ c1_ l1_ B0 d0 r B1 d1 u b_ w1_ q0_ q1_ q2_ q3_ (Kd.C_below (cb_ H2) hw_) G2.out (Kd.C_below (cb_ H3) hw_) G3.out (blk_below BK.out hw_) q4_)).mono ?_; rintro e w3 ⟨rfl, hb⟩; refine ⟨_, rfl, ?_⟩; replace HB := b1_ hb; clear hb))
 go_ret
 exact ⟨qb_, hB_⟩
end Go.Proofs.Ytcggfjpnfodbaaa.M
end
section
namespace Go.Proofs.Ytcggfjpnfodbaaa.A
open Go.RowKit Go.Proofs.YtcggfjpnfodbaaaW.PrintWords Go.Proofs.YtcggfjpnfodbaaaW.PrintLast Go.Proofs.YtcggfjpnfodbaaaW.PrintMore
attribute [local go_sem] max2_int min2_int max_two min_two max_three min_three max_four min_four
set_option linter.unusedVariables false
set_option linter.unusedSimpArgs false
def Z13.f (k : Nat) (l0_0 : List Int) (l0_1 : List Int) : Option (Int) := (Z29.f k l0_0 l0_1).bind fun t240 => (if t240 = true then (some (l0_0.length : Int)) else (some 0))
theorem Z13.mono : ∀ a0 a1 k, LeO (Z13.f k a0 a1) (Z13.f (k + 1) a0 a1) := by
 intro a0 a1 k
 unfold Z13.f
 repeat' first|exact Z29.mono _ _ _|exact lo_|refine LeO.ite ?_ ?_|refine LeO.bind ?_ (fun _ => ?_)
set_option maxHeartbeats 8000000 in
set_option maxRecDepth 100000 in
theorem Z13.calls (k : Nat) (A0_0 : Option Addr) (c0_0 : Nat) (l0_0 : List Int) (A0_1 : Option Addr) (c0_1 : Nat) (l0_1 : List Int) (r : Int) (w : World) (hr0_0 : Kd.C (Kd.int .i64) w A0_0 l0_0.length l0_0) (hc0_0 : l0_0.length ≤ c0_0) (hr0_1 : Kd.C (Kd.int .i64) w A0_1 l0_1.length l0_1) (hc0_1 : l0_1.length ≤ c0_1) (h : Z13.f k l0_0 l0_1 = some r) :
  Calls Try.prog 112 #[.agg #[.slice A0_0 l0_0.length c0_0, .slice A0_1 l0_1.length c0_1]] w fun e w' => e = .returned (.int .i64 r) ∧ Below w.heap.size w w' := by
 have hu25 := Try.underlying25
 have HR0_0 := A_ hr0_0
 have HC0_0 := A_ hc0_0
 clear hr0_0 hc0_0
 have HR0_1 := A_ hr0_1
 have HC0_1 := A_ hc0_1
 clear hr0_1 hc0_1
 have HB := A_ (Below.refl w.heap.size w)
 have H := h
 unfold Z13.f at H
 clear h
 obtain ⟨t240, A2, H⟩ := bi_ H
 by_cases c3 : t240 = true
 ·subst c3
  rw [if_pos rfl] at H
  obtain rfl := Option.some.inj H
  go_enter Try.func112, Try.ntmps112
  go_wp2_with (first | ((with_reducible refine gB_ (N := 1) rfl ?_); refine bx_ 1 #[.slice A0_0 l0_0.length c0_0, .slice A0_1 l0_1.length c0_1] 25 ?_; intro gb239 hg w4 hbox hb; have BK239 := A_ hbox; have GW239 := gw_ w hg; have GE239 := GW239; replace HB := b1_ hb; clear hb hbox hg; obtain ⟨hcz5_0, hcz5_1, hfz5_0, hfz5_1⟩ := c2_ BK239) | ((with_reducible refine gA_ (f := 66) rfl ?_); refine gL_ (some 4) Try.func66 #[.agg #[.slice A0_0 l0_0.length c0_0, .slice A0_1 l0_1.length c0_1]] rfl qa_ ?_; (with_reducible refine (Z29.calls k _ _ l0_0 _ _ l0_1 true _ (cb_ HR0_0) HC0_0.out (cb_ HR0_1) HC0_1.out A2.out).mono ?_); rintro e w6 ⟨rfl, hb⟩; refine ⟨_, rfl, ?_⟩; replace BK239 := bb_ BK239 hb; replace HB := b1_ hb; clear hb; obtain ⟨hcz7_0, hcz7_1, hfz7_0, hfz7_1⟩ := c2_ BK239))
  go_ret
  exact ⟨qb_, hB_⟩
 ·replace c3 := Bool.eq_false_iff.mpr c3
  subst c3
  have H1 : (some 0) = some r := by rw [if_neg (show ¬ (false = true) by decide)] at H; exact H
  clear H
  have H := H1
  clear H1
  obtain rfl := Option.some.inj H
  go_enter Try.func112, Try.ntmps112
  go_wp2_with (first | ((with_reducible refine gB_ (N := 1) rfl ?_); refine bx_ 1 #[.slice A0_0 l0_0.length c0_0, .slice A0_1 l0_1.length c0_1] 25 ?_; intro gb239 hg w8 hbox hb; have BK239 := A_ hbox; have GW239 := gw_ w hg; have GE239 := GW239; replace HB := b1_ hb; clear hb hbox hg; obtain ⟨hcz9_0, hcz9_1, hfz9_0, hfz9_1⟩ := c2_ BK239) | ((with_reducible refine gA_ (f := 66) rfl ?_); refine gL_ (some 4) Try.func66 #[.agg #[.slice A0_0 l0_0.length c0_0, .slice A0_1 l0_1.length c0_1]] rfl qa_ ?_; (with_reducible refine (Z29.calls k _ _ l0_0 _ _ l0_1 false _ (cb_ HR0_0) HC0_0.out (cb_ HR0_1) HC0_1.out A2.out).mono ?_); rintro e w10 ⟨rfl, hb⟩; refine ⟨_, rfl, ?_⟩; replace BK239 := bb_ BK239 hb; replace HB := b1_ hb; clear hb))
  go_ret
  exact ⟨qb_, hB_⟩
end Go.Proofs.Ytcggfjpnfodbaaa.A
end
