/- Lemmas for the row FnClasses: the program's functions told as plain functions, and plain mathematics. No conditions. -/
import Derived.ArgAppend
import Derived.Below
import Derived.BigQuiet
import Derived.Deep.AppendLies
import Derived.Deep.CutBlock
import Derived.Deep.DeepCutAuto
import Derived.Deep.Draws
import Derived.Deep.LoopGhost
import Derived.Deep.OwnRows
import Derived.Deep.QuietTactic
import Derived.Deep.RegionHeld3
import Derived.KernelRfl
import Derived.Laws.BitsLemmas
import Derived.Laws.BytesArg
import Derived.Laws.IdiomCopy
import Derived.Laws.MakeOwn
import Derived.Laws.OwnMore
import Derived.Laws.Rows
import Derived.Laws.Slices
import Derived.Laws.Tables
import Derived.Lib.AppendStr
import Derived.Lib.ConvBytes
import Derived.Maps.AppendAt
import Derived.OrdersHeld
import Derived.OwnWalk
import Derived.RowKit
import Derived.RowKit3
import Derived.Tactics
import Derived.Test.YtoijcallajegfaaProg
import Derived.WalkKit
import Derived.WideLaws
import Derived.Test.YtoijcallajegfaaQFnClasses0
section
namespace Go.Proofs.Ytoijcallajegfaa.A
open Go.RowKit Go.Proofs.YtoijcallajegfaaW.PrintWords Go.Proofs.YtoijcallajegfaaW.PrintLast Go.Proofs.YtoijcallajegfaaW.PrintMore
attribute [local go_sem] max2_int min2_int max_two min_two max_three min_three max_four min_four
set_option linter.unusedVariables false
set_option linter.unusedSimpArgs false
def errW : Option Int → Value
  | none => .nilIface
  | some c => .iface 0 (.int .i64 c)
theorem errW_none : errW none = .nilIface := rfl
theorem errW_some (c : Int) : errW (some c) = .iface 0 (.int .i64 c) := rfl
theorem info3 : (Try.prog.info? 3).map (fun i => (i.zero, i.size, i.bytes)) = some (some (.int .i64 0), 1, 8) := by kernel_rfl
theorem info4 : (Try.prog.info? 4).map (fun i => (i.zero, i.size, i.bytes)) = some (some (.bool false), 1, 1) := by kernel_rfl
theorem info5 : (Try.prog.info? 5).map (fun i => (i.zero, i.size, i.bytes)) = some (some (.int .u8 0), 1, 1) := by kernel_rfl
theorem info9 : (Try.prog.info? 9).map (fun i => (i.zero, i.size, i.bytes)) = some (some (.string ⟨#[]⟩), 1, 16) := by kernel_rfl
theorem info23 : (Try.prog.info? 23).map (fun i => (i.zero, i.size, i.bytes)) = some (some (.slice none 0 0), 1, 24) := by kernel_rfl
theorem info25 : (Try.prog.info? 25).map (fun i => (i.zero, i.size, i.bytes)) = some (some (.slice none 0 0), 1, 24) := by kernel_rfl
theorem info33 : (Try.prog.info? 33).map (fun i => (i.zero, i.size, i.bytes)) = some (some (.agg #[(.slice none 0 0), (.slice none 0 0)]), 2, 48) := by kernel_rfl
structure S102 where
  f0 : (List Int)
  f1 : Int
  f2 : Int
def rd_L5 (xs : List (List Int)) (i : Int) : (List Int) := xs.getD i.toNat ([] : List Int)
theorem at_L5 {w : World} {A : Option Addr} {n : Nat} {xs : List (List Int)} (h : Kd.C (Kd.slice 3 (Kd.int .i64)) w A n xs) (i : Int) (h0 : 0 ≤ i) (h1 : i < n) : ∃ ad A0 c0, A = some ad ∧ w.cell? (ad.add i.toNat) = some (.slice A0 (rd_L5 xs i).length c0) ∧ (rd_L5 xs i).length ≤ c0 ∧ (Kd.int .i64).C w A0 (rd_L5 xs i).length (rd_L5 xs i) := by
  obtain ⟨ad, c, e, _, hK, hc0⟩ := Kd.C_get h ([] : List Int) i h0 h1
  have hc : ∀ j u, c[j]? = some u → w.cell? (ad.add (i.toNat * 1 + j)) = some u := hc0
  obtain ⟨A0, c0, rfl, l0, g0⟩ := hK
  exact ⟨ad, A0, c0, e, by have hq := hc 0 _ rfl; rwa [Nat.mul_one, Nat.add_zero] at hq, l0, g0⟩
structure S33 where
  f0 : (List Int)
  f1 : (List Int)
def z33 : S33 := ⟨([] : List Int), ([] : List Int)⟩
def pairN {α β : Type} (a : Kd α) (b : Kd β) : Kd (α × β) where
  sz := a.sz + b.sz
  E := a.E ++ b.E
  K := (Kd.pair a b).K
  M := fun w base ok x cs => ∃ c0 c1, cs = c0 ++ c1 ∧ a.M w base ok x.1 c0 ∧ b.M w base ok x.2 c1 ∧ ∀ u ∈ c0, ∀ v ∈ c1, NeRow u v
  K_len := (Kd.pair a b).K_len
  K_one := (Kd.pair a b).K_one
  K_below := (Kd.pair a b).K_below
  K_of_M := fun ⟨c0, c1, e, h0, h1, _⟩ => (Kd.pair a b).K_of_M ⟨c0, c1, e, h0, h1⟩
  M_mono := fun hok ⟨c0, c1, e, h0, h1, n⟩ => ⟨c0, c1, e, a.M_mono hok h0, b.M_mono hok h1, n⟩
  M_bound := by
    rintro w base ok x cs ⟨c0, c1, rfl, h0, h1, n⟩
    refine ⟨c0, c1, rfl, a.M_mono ?_ (a.M_bound h0), b.M_mono ?_ (b.M_bound h1), n⟩
    · rintro k ⟨h2, h3, h4, q, hq, hc⟩
      exact ⟨h2, h3, h4, q, List.mem_append_left _ hq, hc⟩
    · rintro k ⟨h2, h3, h4, q, hq, hc⟩
      exact ⟨h2, h3, h4, q, List.mem_append_right _ hq, hc⟩
  M_move := fun hm ⟨c0, c1, e, h0, h1, n⟩ => ⟨c0, c1, e, a.M_move hm h0, b.M_move hm h1, n⟩
  M_lower := fun hb ⟨c0, c1, e, h0, h1, n⟩ => ⟨c0, c1, e, a.M_lower hb h0, b.M_lower hb h1, n⟩
def k33 : Kd S33 := Kd.iso (pairN (Kd.slice 3 (Kd.int .i64)) (Kd.slice 3 (Kd.int .i64))) (fun x : S33 => (x.f0, x.f1))
theorem k33_open {w : World} {x : S33} {cs : List Value} (h : k33.K w x cs) : ∃ A0 c0 A1 c1, cs = [.slice A0 x.f0.length c0, .slice A1 x.f1.length c1] ∧ x.f0.length ≤ c0 ∧ (Kd.int .i64).C w A0 x.f0.length x.f0 ∧ x.f1.length ≤ c1 ∧ (Kd.int .i64).C w A1 x.f1.length x.f1 := by
  obtain ⟨_, _, rfl, ⟨A0, c0, rfl, l0, g0⟩, ⟨A1, c1, rfl, l1, g1⟩⟩ := h
  exact ⟨A0, c0, A1, c1, rfl, l0, g0, l1, g1⟩
theorem k33_openM {w : World} {base : Nat} {ok : Nat → Prop} {x : S33} {cs : List Value} (h : k33.M w base ok x cs) : ∃ v0 v1, cs = [v0, v1] ∧ (Kd.int .i64).R 3 w base ok v0 x.f0 ∧ (Kd.int .i64).R 3 w base ok v1 x.f1 := by
  obtain ⟨_, _, rfl, ⟨v0, rfl, g0⟩, ⟨v1, rfl, g1⟩, _⟩ := h
  exact ⟨v0, v1, rfl, g0, g1⟩
theorem k33_openN {w : World} {base : Nat} {ok : Nat → Prop} {x : S33} {cs : List Value} (h : k33.M w base ok x cs) : ∃ v0 v1, cs = [v0, v1] ∧ (Kd.int .i64).R 3 w base ok v0 x.f0 ∧ (Kd.int .i64).R 3 w base ok v1 x.f1 ∧ NeRow v0 v1 := by
  obtain ⟨_, _, rfl, ⟨v0, rfl, g0⟩, ⟨v1, rfl, g1⟩, n⟩ := h
  exact ⟨v0, v1, rfl, g0, g1, n v0 (by simp) v1 (by simp)⟩
theorem k33_mkM (w : World) (base : Nat) (ok : Nat → Prop) (x : S33) {v0 : Value} (g0 : (Kd.int .i64).R 3 w base ok v0 x.f0) {v1 : Value} (g1 : (Kd.int .i64).R 3 w base ok v1 x.f1) (ne : NeRow v0 v1) : k33.M w base ok x [v0, v1] := ⟨[v0], [v1], rfl, ⟨v0, rfl, g0⟩, ⟨v1, rfl, g1⟩, fun u hu v hv => by rw [List.mem_singleton.1 hu, List.mem_singleton.1 hv]; exact ne⟩
theorem k33_openF {W : World} {ok : Nat → Prop} {x : S33} {cs : List Value} (h : Kd.FK k33 W ok x cs) : ∃ A0 c0 A1 c1, cs = [.slice A0 x.f0.length c0, .slice A1 x.f1.length c1] ∧ x.f0.length ≤ c0 ∧ Kd.F (Kd.int .i64) W ok A0 x.f0.length x.f0 ∧ x.f1.length ≤ c1 ∧ Kd.F (Kd.int .i64) W ok A1 x.f1.length x.f1 := by
  obtain ⟨A0, c0, A1, c1, rfl, l0, _, l1, _⟩ := k33_open (Kd.FK_now h)
  exact ⟨A0, c0, A1, c1, rfl, l0, (fun W' hW => by obtain ⟨A0_, c0_, A1_, c1_, he, l0_, g0_, l1_, g1_⟩ := k33_open (h W' hW); injection (Option.some.inj (show some (Value.slice A0 x.f0.length c0) = some (Value.slice A0_ x.f0.length c0_) from congrArg (fun l => l[0]?) he)) with ha_ _ _; rw [ha_]; exact g0_), l1, (fun W' hW => by obtain ⟨A0_, c0_, A1_, c1_, he, l0_, g0_, l1_, g1_⟩ := k33_open (h W' hW); injection (Option.some.inj (show some (Value.slice A1 x.f1.length c1) = some (Value.slice A1_ x.f1.length c1_) from congrArg (fun l => l[1]?) he)) with ha_ _ _; rw [ha_]; exact g1_)⟩
def rd_T33 (xs : List S33) (i : Int) : S33 := xs.getD i.toNat z33
theorem at_T33 {w : World} {A : Option Addr} {n : Nat} {xs : List S33} (h : Kd.C k33 w A n xs) (i : Int) (h0 : 0 ≤ i) (h1 : i < n) : ∃ ad A0 c0 A1 c1, A = some ad ∧ w.cell? (ad.add (i.toNat * 2)) = some (.slice A0 (rd_T33 xs i).f0.length c0) ∧ w.cell? ⟨(ad.add (i.toNat * 2)).block, (ad.add (i.toNat * 2)).off + 1, none⟩ = some (.slice A1 (rd_T33 xs i).f1.length c1) ∧ (rd_T33 xs i).f0.length ≤ c0 ∧ (Kd.int .i64).C w A0 (rd_T33 xs i).f0.length (rd_T33 xs i).f0 ∧ (rd_T33 xs i).f1.length ≤ c1 ∧ (Kd.int .i64).C w A1 (rd_T33 xs i).f1.length (rd_T33 xs i).f1 := by
  obtain ⟨ad, c, e, _, hK, hc0⟩ := Kd.C_get h z33 i h0 h1
  have hc : ∀ j u, c[j]? = some u → w.cell? (ad.add (i.toNat * 2 + j)) = some u := hc0
  obtain ⟨A0, c0, A1, c1, rfl, l0, g0, l1, g1⟩ := k33_open hK
  exact ⟨ad, A0, c0, A1, c1, e, hc 0 _ rfl, by rw [← add_field _ _ 1 (by omega)]; exact hc 1 _ rfl, l0, g0, l1, g1⟩
def rd_L8 (xs : List (List S33)) (i : Int) : (List S33) := xs.getD i.toNat ([] : List S33)
theorem at_L8 {w : World} {A : Option Addr} {n : Nat} {xs : List (List S33)} (h : Kd.C (Kd.slice 33 k33) w A n xs) (i : Int) (h0 : 0 ≤ i) (h1 : i < n) : ∃ ad A0 c0, A = some ad ∧ w.cell? (ad.add i.toNat) = some (.slice A0 (rd_L8 xs i).length c0) ∧ (rd_L8 xs i).length ≤ c0 ∧ k33.C w A0 (rd_L8 xs i).length (rd_L8 xs i) := by
  obtain ⟨ad, c, e, _, hK, hc0⟩ := Kd.C_get h ([] : List S33) i h0 h1
  have hc : ∀ j u, c[j]? = some u → w.cell? (ad.add (i.toNat * 1 + j)) = some u := hc0
  obtain ⟨A0, c0, rfl, l0, g0⟩ := hK
  exact ⟨ad, A0, c0, e, by have hq := hc 0 _ rfl; rwa [Nat.mul_one, Nat.add_zero] at hq, l0, g0⟩
structure S118 where
  f0 : Int
  f1 : Int
end Go.Proofs.Ytoijcallajegfaa.A
end
section
/- Short words for printed texts. No conditions. -/
namespace Go.Proofs.Ytoijcallajegfaa.A
open Go.RowKit Go.Proofs.YtoijcallajegfaaW.PrintWords Go.Proofs.YtoijcallajegfaaW.PrintLast Go.Proofs.YtoijcallajegfaaW.PrintMore
set_option linter.unusedVariables false
theorem qa_ {p : Prop} (h : p := by (try simp only [List.map_toArray, List.map_cons, List.map_nil]); first | done | rfl | (simp only [List.length_drop, List.length_take]; rfl)) : p := h
theorem qb_ {p : Prop} (h : p := by first | rfl | (simp [errW_none, errW_some] <;> rfl) | (simp [*, errW_none, errW_some] <;> rfl)) : p := h
theorem qc_ {p : Prop} (h : p := by first | rfl | (simp; done) | (simp [*]; done)) : p := h
theorem qd_ {p : Prop} (h : p := by first | omega | exact Nat.le_refl _) : p := h
theorem qe_ {p : Prop} (h : p := by first | (with_reducible assumption) | assumption) : p := h
theorem hB_ {p : Prop} (h : p := by repeat (first | (with_reducible first | exact HB.out | apply below_alloc | apply pw_below_drewN | apply below_drew1 | refine below_set ?_ (Aside0.out (by assumption))) | exact HB.out)) : p := h
theorem hBI_ {p : Prop} (h : p := by repeat (first | (with_reducible first | exact HB.out | apply below_alloc | apply pw_below_drewN | apply below_drew1 | refine below_set ?_ (IsS102.ge HI0.out) | refine below_set ?_ (IsS102.ge HI615.out) | refine below_set ?_ (Aside0.out (by assumption))) | exact HB.out)) : p := h
theorem hK_ {p : Prop} (h : p := by repeat (first | (with_reducible first | exact HK.out | apply KeepBut.set_ | apply keep_drewN | apply keep_drew | apply keep_alloc | refine keep_far ?_ (show w.heap.size ≤ _ from Aside0.out (by assumption)) _) | exact HK.out)) : p := h
theorem hI_IsS102_HI0 {p : Prop} (h : p := by repeat (first | (with_reducible first | exact HI0.out | apply IsS102.alloc | apply IsS102.drewN | apply IsS102.drew | apply IsS102.set_1 | apply IsS102.set_2 | refine IsS102.far ?_ (Aside0.out (by assumption)) _) | exact HI0.out)) : p := h
theorem kk_ {w W : World} {g : Nat} {o : Obj} (a : Aside0 (w.heap[g]? = some o)) (hw : Below w.heap.size w W := by repeat (first | (with_reducible first | exact Below.refl _ _ | apply below_alloc | apply pw_below_drewN | apply below_drew1) | exact Below.refl _ _)) : W.heap[g]? = some o := blk_below a.out hw
theorem bb_ {w W w1 : World} {g : Nat} {o : Obj} (a : Aside0 (w.heap[g]? = some o)) (hb : Below W.heap.size W w1) (hw : Below w.heap.size w W := by repeat (first | (with_reducible first | exact Below.refl _ _ | apply below_alloc | apply pw_below_drewN | apply below_drew1) | exact Below.refl _ _)) : Aside0 (w1.heap[g]? = some o) := ⟨blk_below (blk_below a.out hw) hb⟩
section
variable {α : Type} {d : Kd α} {e n c : Nat} {b : Nat} {ok : Nat → Prop} {v : Value} {xs : List α} {A : Option Addr} {w W w1 : World}
theorem rr_ (a : Aside0 (d.R e w b ok v xs)) (hw : Below w.heap.size w W := by repeat (first | (with_reducible first | exact Below.refl _ _ | apply below_alloc | apply pw_below_drewN | apply below_drew1) | exact Below.refl _ _)) : d.R e W b ok v xs := Kd.R_below a.out hw
theorem rw_ (a : d.R e w b ok v xs) (hw : Below w.heap.size w W := by repeat (first | (with_reducible first | exact Below.refl _ _ | apply below_alloc | apply pw_below_drewN | apply below_drew1) | exact Below.refl _ _)) : d.R e W b ok v xs := Kd.R_below a hw
theorem rb_ (a : Aside0 (d.R e w b ok v xs)) (hb : Below W.heap.size W w1) (hw : Below w.heap.size w W := by repeat (first | (with_reducible first | exact Below.refl _ _ | apply below_alloc | apply pw_below_drewN | apply below_drew1) | exact Below.refl _ _)) : Aside0 (d.R e w1 b ok v xs) := ⟨Kd.R_below (Kd.R_below a.out hw) hb⟩
theorem ss_ (a : Aside0 (Kd.S d e w b ok v xs)) (hw : Below w.heap.size w W := by repeat (first | (with_reducible first | exact Below.refl _ _ | apply below_alloc | apply pw_below_drewN | apply below_drew1) | exact Below.refl _ _)) : Kd.S d e W b ok v xs := Kd.S_below a.out hw
theorem sw_ (a : Kd.S d e w b ok v xs) (hw : Below w.heap.size w W := by repeat (first | (with_reducible first | exact Below.refl _ _ | apply below_alloc | apply pw_below_drewN | apply below_drew1) | exact Below.refl _ _)) : Kd.S d e W b ok v xs := Kd.S_below a hw
theorem sb_ (a : Aside0 (Kd.S d e w b ok v xs)) (hb : Below W.heap.size W w1) (hw : Below w.heap.size w W := by repeat (first | (with_reducible first | exact Below.refl _ _ | apply below_alloc | apply pw_below_drewN | apply below_drew1) | exact Below.refl _ _)) : Aside0 (Kd.S d e w1 b ok v xs) := ⟨Kd.S_below (Kd.S_below a.out hw) hb⟩
theorem cb_ (a : Aside0 (d.C w A n xs)) (hw : Below w.heap.size w W := by repeat (first | (with_reducible first | exact HB.out | apply below_alloc | apply pw_below_drewN | apply below_drew1 | refine below_set ?_ (Aside0.out (by assumption))) | exact HB.out)) : d.C W A n xs := Kd.C_below a.out hw
theorem cc_ (a : Aside0 (d.C w A n xs)) (hw : Below w.heap.size w W := by repeat (first | (with_reducible first | exact Below.refl _ _ | apply below_alloc | apply pw_below_drewN | apply below_drew1) | exact Below.refl _ _)) : d.C W A n xs := Kd.C_below a.out hw
theorem cw_ (a : d.C w A n xs) (hw : Below w.heap.size w W := by repeat (first | (with_reducible first | exact Below.refl _ _ | apply below_alloc | apply pw_below_drewN | apply below_drew1) | exact Below.refl _ _)) : d.C W A n xs := Kd.C_below a hw
theorem cr_ (a : Aside0 (d.R e w b ok (.slice A n c) xs)) (hw : Below w.heap.size w W := by repeat (first | (with_reducible first | exact Below.refl _ _ | apply below_alloc | apply pw_below_drewN | apply below_drew1) | exact Below.refl _ _)) : d.C W A xs.length xs := Kd.C_below (Kd.R_reads' a.out).2.2 hw
end
theorem b1_ {w W w1 : World} (hb : Below W.heap.size W w1) (h : Below w.heap.size w W := by repeat (first | (with_reducible first | exact HB.out | apply below_alloc | apply pw_below_drewN | apply below_drew1 | refine below_set ?_ (Aside0.out (by assumption))) | exact HB.out)) : Aside0 (Below w.heap.size w w1) := ⟨below_step h hb⟩
theorem gx_ {n m k : Nat} (hg : k = m) (h : n ≤ m) : n ≤ k := hg ▸ h
theorem gn_ {n m k : Nat} (hg : k = m) (h : n < m) : n ≠ k := hg ▸ Nat.ne_of_lt h
theorem gp_ {n m k : Nat} (hg : k = m) (h : n < m) : k ≠ n := hg ▸ Nat.ne_of_gt h
theorem cz0_ {w : World} {g : Nat} {t : TypeId} {l : List Value} {v0 : Value} (h : Aside0 (w.heap[g]? = some (.cells (List.toArray (v0 :: l)) t (0, 0)))) : w.cell? ⟨g, 0, none⟩ = some v0 := (blk_cell h.out 0).trans rfl
theorem cz1_ {w : World} {g : Nat} {t : TypeId} {l : List Value} {v0 v1 : Value} (h : Aside0 (w.heap[g]? = some (.cells (List.toArray (v0 :: v1 :: l)) t (0, 0)))) : w.cell? ⟨g, 1, none⟩ = some v1 := (blk_cell h.out 1).trans rfl
theorem c2_ {w : World} {g : Nat} {t : TypeId} {v0 v1 : Value} (h : Aside0 (w.heap[g]? = some (.cells (List.toArray [v0, v1]) t (0, 0)))) : w.cell? ⟨g, 0, none⟩ = some v0 ∧ w.cell? ⟨g, 1, none⟩ = some v1 ∧ w.frozen? ⟨g, 0, none⟩ = false ∧ w.frozen? ⟨g, 1, none⟩ = false := ⟨cz0_ h, cz1_ h, blk_frozen h.out 0, blk_frozen h.out 1⟩
theorem gw_ (w : World) {W : World} {g : Nat} (hg : g = W.heap.size) (h : Below w.heap.size w W := by repeat (first | (with_reducible first | exact HB.out | apply below_alloc | apply pw_below_drewN | apply below_drew1 | refine below_set ?_ (Aside0.out (by assumption))) | exact HB.out)) : Aside0 (w.heap.size ≤ g) := ⟨gx_ hg (below_size h)⟩
theorem gN_ {w W : World} {g k : Nat} {o : Obj} (a : Aside0 (w.heap[g]? = some o)) (hg : k = W.heap.size) (hw : Below w.heap.size w W := by repeat (first | (with_reducible first | exact Below.refl _ _ | apply below_alloc | apply pw_below_drewN | apply below_drew1) | exact Below.refl _ _)) : Aside0 (g ≠ k) := ⟨gn_ hg (blk_lt (blk_below a.out hw))⟩
theorem gP_ {w W : World} {g k : Nat} {o : Obj} (a : Aside0 (w.heap[g]? = some o)) (hg : k = W.heap.size) (hw : Below w.heap.size w W := by repeat (first | (with_reducible first | exact Below.refl _ _ | apply below_alloc | apply pw_below_drewN | apply below_drew1) | exact Below.refl _ _)) : Aside0 (k ≠ g) := ⟨gp_ hg (blk_lt (blk_below a.out hw))⟩
theorem rl_ {α : Type} {d : Kd α} {e : Nat} {ok : Nat → Prop} {v : Value} {xs : List α} (w : World) {W w1 : World} (a : d.R e w1 W.heap.size ok v xs) (h : Below w.heap.size w W := by repeat (first | (with_reducible first | exact HB.out | apply below_alloc | apply pw_below_drewN | apply below_drew1 | refine below_set ?_ (Aside0.out (by assumption))) | exact HB.out)) : Aside0 (d.R e w1 w.heap.size ok v xs) := ⟨Kd.R_lower a (below_size h)⟩
theorem cp_ {α : Type} {c : Prop} [Decidable c] {a : Option α} {r : α} (H : (if c then a else none) = some r) : c := Classical.byContradiction fun h => by rw [if_neg h] at H; cases H
theorem ca_ {α : Type} {c : Prop} [Decidable c] {a : Option α} {r : α} (H : (if c then a else none) = some r) : a = some r := by rw [if_pos (cp_ H)] at H; exact H
theorem bi_ {α β : Type} {x : Option α} {f : α → Option β} {r : β} (H : x.bind f = some r) : ∃ a, Aside0 (x = some a) ∧ f a = some r := by obtain ⟨a, h, k⟩ := Option.bind_eq_some_iff.mp H; exact ⟨a, ⟨h⟩, k⟩
theorem qp_ {p : Prop} (h : p := by (with_reducible repeat (first | refine blk_drewN ?_ _ | refine blk_drew ?_ | refine blk_alloc ?_ _)); apply blk_put; (with_reducible repeat (first | refine blk_drewN ?_ _ | refine blk_drew ?_ | refine blk_alloc ?_ _)); apply blk_put; (with_reducible repeat (first | refine blk_drewN ?_ _ | refine blk_drew ?_ | refine blk_alloc ?_ _)); exact Aside0.out (by assumption); all_goals rfl) : p := h
theorem fa_ {α : Type} {d : Kd α} {e b g t : Nat} {ok : Nat → Prop} {v u0 u1 : Value} {xs : List α} {w : World} {cs : Array Value} (a : Aside0 (d.R e w b ok v xs)) (h : Aside0 (w.heap[g]? = some (.cells cs t (0, 0)))) (ht : ∀ q, q ∈ e :: d.E → q ≠ t := by decide) : d.R e ((w.setCell ⟨g, 0, none⟩ u0).setCell ⟨g, 1, none⟩ u1) b ok v xs := Kd.R_mono (Kd.R_far (p := ⟨g, 1, none⟩) (Kd.R_far (p := ⟨g, 0, none⟩) (Kd.R_types a.out h.out ht) (fun _ hk => hk.2) u0) (fun _ hk => hk.2) u1) (fun _ hk => hk.1)
def bl_ (n m : Nat) : Array Bool := ((List.range n).map fun i => m.testBit i).toArray
theorem lo_ {α : Type} {a b : Option α} (h : LeO a b := by first | exact LeO.refl _ | exact LeO.none _) : LeO a b := h
section
variable {P : Program} {ops : Array Oper} {rest : List Oper} {o : Oper} {a : Act} {Q : Exit → Act → World → Prop} {S : World → Prop} {ds : List Nat} {md : Region.Mode} {T : Bool × List (List Nat × List Nat)} {B : List Nat}
theorem bx_ {W : World} (N : Tmp) (cs : Array Value) (t : TypeId) (h : ∀ g, g = W.heap.size → ∀ w1, w1.heap[g]? = some (.cells cs t (0, 0)) → Below W.heap.size W w1 → wpList P ops Q rest (a.put o.dst (.pointer (some ⟨g, 0, none⟩))) w1) (hgd : o.guard = none := by rfl) (hd : o.dst = some N := by rfl) (hrun : (execOp a.eval o).run P W = .ok (.value (.pointer (some ⟨W.heap.size, 0, none⟩))) (W.alloc (.cells cs t (0, 0))) := by first | (go_simp; done) | (go_simp; rfl)) : wpList P ops Q (o :: rest) a W := box_event hgd hd hrun h
theorem gL_ {w : World} (N : Option Tmp) {f : FuncId} {fn : Func} {az : Array Operand} {ts : Array TypeId} (hf : P.funcs[f]? = some fn) (args : Array Value) (hop : o.op = .call { callee := .value (.func f), args := az, argTypes := ts }) (hargs : az.map a.eval = args) (h : Calls P f args w fun e w' => ∃ v, e = .returned v ∧ wpList P ops Q rest (a.put N v) w') (hd : o.dst = N := by rfl) (hg : o.guard = none := by rfl) (hname : (fn.name == "runtime.NumGoroutine") = false := by kernel_rfl) (hb : fn.body.isSome = true := by rfl) : wpList P ops Q (o :: rest) a w := goesL_ N hd hg hf hname hb args hop hargs h
theorem gO_ {N : Option Tmp} {w : World} {K : Act → World → Prop} {f : FuncId} {fn : Func} {az : Array Operand} {ts : Array TypeId} (hf : P.funcs[f]? = some fn) (args : Array Value) (hw : Region.wanted o (yielded ops a.tmps) = true) (hN : o.dst = N) (hop : o.op = .call { callee := .value (.func f), args := az, argTypes := ts }) (hargs : az.map a.eval = args) (h : Calls P f args w fun e w' => ∃ v, e = .returned v ∧ K (a.put N v) w') (hname : (fn.name == "runtime.NumGoroutine") = false := by kernel_rfl) (hb : fn.body.isSome = true := by rfl) : if Region.wanted o (yielded ops a.tmps) = true then Oper.wp P o a w K Q else K (a.put N undef) w := goes_ hf hname hb args hw hN hop hargs h
theorem goesF_ {N : Option Tmp} {w : World} {K : Act → World → Prop} {f : FuncId} {fn : Func} {c : Operand} {az : Array Operand} {ts : Array TypeId} (hf : P.funcs[f]? = some fn) (hname : (fn.name == "runtime.NumGoroutine") = false) (hb : fn.body.isSome = true) (args : Array Value) (hw : Region.wanted o (yielded ops a.tmps) = true) (hN : o.dst = N) (hop : o.op = .call { callee := .value c, args := az, argTypes := ts }) (hargs : az.map a.eval = args) (h : Calls P f args w fun e w' => ∃ v, e = .returned v ∧ K (a.put N v) w') (hc : a.eval c = .func (.func f) #[] #[] := by rfl) : if Region.wanted o (yielded ops a.tmps) = true then Oper.wp P o a w K Q else K (a.put N undef) w := by
  refine call_ f args hw hN ?_ h
  have he := enters_ hf hname hb args w
  unfold execOp
  simp [hop, resolve, Deferred.ofValue, invoke, hargs, he, hc]
theorem pu_ (i : Nat) (N : Option Tmp) {v : Value} {fuel : Nat} {l : Array Bool} {w : World} (l' : Array Bool) (hT : Aside0 (rtab md ops = T)) {a' : Act} (h : wpAnyLast P md ops Q S ds fuel l' a' w) (hi : ops[i]? = some o := by rfl) (hN : o.dst = N := by rfl) (hc : anyT T l.toList l'.toList i = true := by kernel_rfl) (hQ : ∀ c a w, Q (.panic c) (a.put o.dst v) w → Q (.panic c) a w := by exact fun _ _ _ h => h) (hg : o.guard = none ∨ True := by exact .inr trivial) (hy : Yields P ops o v a := by exact Or.inl ⟨by rfl, by intro w'; go_simp; with_reducible rfl⟩) (ha : a.put N v = a' := by simp only [Act.put, List.setIfInBounds_toArray, List.set_cons_zero, List.set_cons_succ, i64_w, i32_w]; rfl) : wpAnyLast P md ops Q S ds (fuel + 1) l a w := pure_ l' hi hN (any_of hT.out hc) hQ hy ha h
theorem ta_ (i : Nat) (N : Option Tmp) {v : Value} {fuel : Nat} {l : Array Bool} {w : World} (l' : Array Bool) (hT : Aside0 (rtab md ops = T)) (hB : Aside0 (waitsOk T.2 B = true)) (hS : S w) {a' : Act} (h : wpAnyLast P md ops Q S ds fuel l' a' w) (hi : ops[i]? = some o := by rfl) (hN : o.dst = N := by rfl) (hc : takeW T B ds l.toList l'.toList i = true := by kernel_rfl) (hQ : ∀ c a w, Q (.panic c) (a.put o.dst v) w → Q (.panic c) a w := by exact fun _ _ _ h => h) (hy : YieldsIf P ops S o v a := by exact Or.inl ⟨by rfl, by intro w' hs_; (repeat obtain ⟨s_, hs_⟩ := hs_); go_simp; with_reducible rfl⟩) (ha : a.put N v = a' := by simp only [Act.put, List.setIfInBounds_toArray, List.set_cons_zero, List.set_cons_succ, i64_w, i32_w]; rfl) : wpAnyLast P md ops Q S ds (fuel + 1) l a w := take_ l' hi hN (take_ofW hT.out hB.out hc) hQ hy hS ha h
theorem on_ (i : Nat) (N : Option Tmp) {fuel : Nat} {l : Array Bool} {w : World} (l' : Array Bool) (hT : Aside0 (rtab md ops = T)) (h : ∀ K : Act → World → Prop, Shut (∀ a' w', S w' → (S w' → wpAnyLast P md ops Q S ds fuel l' a' w') → K a' w') → if Region.wanted o (yielded ops a.tmps) = true then Oper.wp P o a w K Q else K (a.put N undef) w) (hi : ops[i]? = some o := by rfl) (hN : o.dst = N := by rfl) (hc : (readyT T.2 l.toList == [i] && l.toList.set i true == l'.toList) = true := by kernel_rfl) (hd : i ∉ ds := by decide) : wpAnyLast P md ops Q S ds (fuel + 1) l a w := one_ l' hi hN (one_of hT.out hc) hd h
theorem no_ {v : Value} {fuel : Nat} {l : Array Bool} {w : World} (N : Option Tmp) {a' : Act} (h : wpAnyLast P md ops Q S ds fuel l a' w) (ha : a.put N v = a' := by simp only [Act.put, List.setIfInBounds_toArray, List.set_cons_zero, List.set_cons_succ, i64_w, i32_w]; rfl) : wpAnyLast P md ops Q S ds fuel l (a.put N v) w := norm_ ha h
end
end Go.Proofs.Ytoijcallajegfaa.A
end
section
namespace Go.Proofs.Ytoijcallajegfaa.A
open Go.RowKit Go.Proofs.YtoijcallajegfaaW.PrintWords Go.Proofs.YtoijcallajegfaaW.PrintLast Go.Proofs.YtoijcallajegfaaW.PrintMore
attribute [local go_sem] max2_int min2_int max_two min_two max_three min_three max_four min_four
set_option linter.unusedVariables false
set_option linter.unusedSimpArgs false
def IsS102 (w0 W : World) (g : Nat) (f0 : List Int) (f1 : Int) (f2 : Int) : Prop := ∃ A0 c0, W.heap[g]? = some (.cells #[.slice A0 f0.length c0, .int .i64 f1, .int .i64 f2] 102 (0, 0)) ∧ w0.heap.size ≤ g ∧ Kd.C (Kd.int .u8) w0 A0 f0.length f0
theorem IsS102.grown {w0 W : World} {g : Nat} {f0 : List Int} {f1 : Int} {f2 : Int} {W1 : World} {row : Option Nat} (h : IsS102 w0 W g f0 f1 f2) (hw : W.grownBy W1 row) (hne : some g ≠ row) : IsS102 w0 W1 g f0 f1 f2 := by
  obtain ⟨A0, c0, hb, hg, hr0⟩ := h
  exact ⟨A0, c0, blk_grown hb hw hne, hg, hr0⟩
theorem IsS102.own_neN {w0 W : World} {g : Nat} {f0 : List Int} {f1 : Int} {f2 : Int} {α : Type} {d : Kd α} {e : Nat} {base : Nat} {ok : Nat → Prop} {v : Value} {xs : List α} (h : IsS102 w0 W g f0 f1 f2) (ho : Kd.N d e W base ok v xs) (ht : e ≠ 102) : some g ≠ v.ownBlock := by
  obtain ⟨A0, c0, hb, hg, hr0⟩ := h
  exact Kd.N_ne ho hb ht
theorem IsS102.fresh {w0 W : World} {g : Nat} {f0 : List Int} {f1 : Int} {f2 : Int} (h : IsS102 w0 W g f0 f1 f2) : ∀ k, W.heap.size ≤ k → k ≠ g := by
  obtain ⟨A0, c0, hb, hg, hr0⟩ := h
  exact Kd.freshB hb
theorem IsS102.kept {w0 W : World} {g : Nat} {f0 : List Int} {f1 : Int} {f2 : Int} {W1 : World} {S : Nat → Prop} (h : IsS102 w0 W g f0 f1 f2) (hk : Kept W W1 S) (hne : ¬ S g) : IsS102 w0 W1 g f0 f1 f2 := by
  obtain ⟨A0, c0, hb, hg, hr0⟩ := h
  exact ⟨A0, c0, blk_kept hb hk hne, hg, hr0⟩
theorem IsS102.below {w0 W : World} {g : Nat} {f0 : List Int} {f1 : Int} {f2 : Int} {W1 : World} (h : IsS102 w0 W g f0 f1 f2) (hw : Below W.heap.size W W1) : IsS102 w0 W1 g f0 f1 f2 := h.grown (grown_of_below hw none) (by simp)
theorem IsS102.alloc {w0 W : World} {g : Nat} {f0 : List Int} {f1 : Int} {f2 : Int} (h : IsS102 w0 W g f0 f1 f2) (o : Obj) : IsS102 w0 (W.alloc o) g f0 f1 f2 := h.below (below_alloc (Below.refl _ _) o)
theorem IsS102.drewN {w0 W : World} {g : Nat} {f0 : List Int} {f1 : Int} {f2 : Int} (h : IsS102 w0 W g f0 f1 f2) (m : Nat) : IsS102 w0 (W.drewN m) g f0 f1 f2 := h
theorem IsS102.drew {w0 W : World} {g : Nat} {f0 : List Int} {f1 : Int} {f2 : Int} (h : IsS102 w0 W g f0 f1 f2) : IsS102 w0 W.drew g f0 f1 f2 := h
theorem IsS102.at_ {w0 W : World} {g : Nat} {f0 : List Int} {f1 : Int} {f2 : Int} {w' : World} {m : Nat} (hq : W.drewN m = w') (h : IsS102 w0 W g f0 f1 f2) : IsS102 w0 w' g f0 f1 f2 := by subst hq; exact IsS102.drewN h m
theorem IsS102.apart {w0 W : World} {g : Nat} {f0 : List Int} {f1 : Int} {f2 : Int} {α : Type} {d : Kd α} {e : Nat} {base : Nat} {ok : Nat → Prop} {v : Value} {xs : List α} (h : IsS102 w0 W g f0 f1 f2) (ho : d.R e W base ok v xs) (ht : ∀ q, q ∈ e :: d.E → q ≠ 102) : d.R e W base (fun k => ok k ∧ k ≠ g) v xs := by
  obtain ⟨A0, c0, hb, hg, hr0⟩ := h
  exact Kd.R_types ho hb ht
theorem IsS102.own_ne {w0 W : World} {g : Nat} {f0 : List Int} {f1 : Int} {f2 : Int} {α : Type} {d : Kd α} {e : Nat} {base : Nat} {ok : Nat → Prop} {v : Value} {xs : List α} (h : IsS102 w0 W g f0 f1 f2) (ho : d.R e W base ok v xs) (ht : e ≠ 102) : some g ≠ v.ownBlock := by
  obtain ⟨A0, c0, hb, hg, hr0⟩ := h
  exact Kd.R_ne ho hb ht
theorem IsS102.apartQ {w0 W : World} {g : Nat} {f0 : List Int} {f1 : Int} {f2 : Int} {α : Type} {d : Kd α} {e : Nat} {base : Nat} {ok : Nat → Prop} {v : Value} {xs : List α} (h : IsS102 w0 W g f0 f1 f2) (ho : d.Q e W base ok v xs) (ht : ∀ q, q ∈ e :: d.E → q ≠ 102) : d.Q e W base (fun k => ok k ∧ k ≠ g) v xs := by
  obtain ⟨A0, c0, hb, hg, hr0⟩ := h
  exact Kd.Q_types ho hb ht
theorem IsS102.own_neQ {w0 W : World} {g : Nat} {f0 : List Int} {f1 : Int} {f2 : Int} {α : Type} {d : Kd α} {e : Nat} {base : Nat} {ok : Nat → Prop} {v : Value} {xs : List α} (h : IsS102 w0 W g f0 f1 f2) (ho : d.Q e W base ok v xs) (ht : e ≠ 102) : some g ≠ v.ownBlock := by
  obtain ⟨A0, c0, hb, hg, hr0⟩ := h
  exact Kd.Q_ne ho hb ht
theorem IsS102.apartS {w0 W : World} {g : Nat} {f0 : List Int} {f1 : Int} {f2 : Int} {α : Type} {d : Kd α} {e : Nat} {base : Nat} {ok : Nat → Prop} {v : Value} {xs : List α} (h : IsS102 w0 W g f0 f1 f2) (ho : d.S e W base ok v xs) (ht : ∀ q, q ∈ e :: d.E → q ≠ 102) : d.S e W base (fun k => ok k ∧ k ≠ g) v xs := by
  obtain ⟨A0, c0, hb, hg, hr0⟩ := h
  exact Kd.S_types ho hb ht
theorem IsS102.own_neS {w0 W : World} {g : Nat} {f0 : List Int} {f1 : Int} {f2 : Int} {α : Type} {d : Kd α} {e : Nat} {base : Nat} {ok : Nat → Prop} {v : Value} {xs : List α} (h : IsS102 w0 W g f0 f1 f2) (ho : d.S e W base ok v xs) (ht : e ≠ 102) : some g ≠ v.ownBlock := by
  obtain ⟨A0, c0, hb, hg, hr0⟩ := h
  exact Kd.S_ne ho hb ht
theorem IsS102.lt {w0 W : World} {g : Nat} {f0 : List Int} {f1 : Int} {f2 : Int} (h : IsS102 w0 W g f0 f1 f2) : g < W.heap.size := by
  obtain ⟨A0, c0, hb, hg, hr0⟩ := h
  exact blk_lt hb
theorem IsS102.ge {w0 W : World} {g : Nat} {f0 : List Int} {f1 : Int} {f2 : Int} (h : IsS102 w0 W g f0 f1 f2) : w0.heap.size ≤ g := by
  obtain ⟨A0, c0, hb, hg, hr0⟩ := h
  exact hg
theorem IsS102.ne_blk {w0 W : World} {g : Nat} {f0 : List Int} {f1 : Int} {f2 : Int} {a : Nat} {cs : Array Value} {t : TypeId} {fr : Nat × Nat} (h : IsS102 w0 W g f0 f1 f2) (hb2 : W.heap[a]? = some (.cells cs t fr)) (ht : t ≠ 102) : g ≠ a := by
  obtain ⟨A0, c0, hb, hg, hr0⟩ := h
  rintro rfl
  rw [hb] at hb2
  injection hb2 with hb2
  injection hb2 with _ ht2
  exact ht ht2.symm
theorem IsS102.far {w0 W : World} {g : Nat} {f0 : List Int} {f1 : Int} {f2 : Int} {p : Addr} (h : IsS102 w0 W g f0 f1 f2) (hne : g ≠ p.block) (u : Value) : IsS102 w0 (W.setCell p u) g f0 f1 f2 := by
  obtain ⟨A0, c0, hb, hg, hr0⟩ := h
  exact ⟨A0, c0, blk_far hb hne u, hg, hr0⟩
theorem cellS102_0 {W : World} {g : Nat} {A0 : Option Addr} {c0 : Nat} {f0 : List Int} {f1 : Int} {f2 : Int} (h : W.heap[g]? = some (.cells #[.slice A0 f0.length c0, .int .i64 f1, .int .i64 f2] 102 (0, 0))) : W.cell? ⟨g, 0, none⟩ = some (.slice A0 f0.length c0) := (blk_cell h 0).trans rfl
theorem cellS102_1 {W : World} {g : Nat} {A0 : Option Addr} {c0 : Nat} {f0 : List Int} {f1 : Int} {f2 : Int} (h : W.heap[g]? = some (.cells #[.slice A0 f0.length c0, .int .i64 f1, .int .i64 f2] 102 (0, 0))) : W.cell? ⟨g, 1, none⟩ = some (.int .i64 f1) := (blk_cell h 1).trans rfl
theorem IsS102.set_1 {w0 W : World} {g : Nat} {f0 : List Int} {f1 : Int} {f2 : Int} (h : IsS102 w0 W g f0 f1 f2) (x : Int) : IsS102 w0 (W.setCell ⟨g, 1, none⟩ (.int .i64 x)) g f0 x f2 := by
  obtain ⟨A0, c0, hb, hg, hr0⟩ := h
  exact ⟨A0, c0, by simpa using blk_set hb 1 (.int .i64 x), hg, hr0⟩
theorem cellS102_2 {W : World} {g : Nat} {A0 : Option Addr} {c0 : Nat} {f0 : List Int} {f1 : Int} {f2 : Int} (h : W.heap[g]? = some (.cells #[.slice A0 f0.length c0, .int .i64 f1, .int .i64 f2] 102 (0, 0))) : W.cell? ⟨g, 2, none⟩ = some (.int .i64 f2) := (blk_cell h 2).trans rfl
theorem IsS102.set_2 {w0 W : World} {g : Nat} {f0 : List Int} {f1 : Int} {f2 : Int} (h : IsS102 w0 W g f0 f1 f2) (x : Int) : IsS102 w0 (W.setCell ⟨g, 2, none⟩ (.int .i64 x)) g f0 f1 x := by
  obtain ⟨A0, c0, hb, hg, hr0⟩ := h
  exact ⟨A0, c0, by simpa using blk_set hb 2 (.int .i64 x), hg, hr0⟩
theorem IsS102.new (w0 W : World) (A0 : Option Addr) (c0 : Nat) (f0 : List Int) (f1 : Int) (f2 : Int) (hB : Below w0.heap.size w0 W) (hr0 : Kd.C (Kd.int .u8) w0 A0 f0.length f0) : IsS102 w0 (W.alloc (.cells #[.slice A0 f0.length c0, .int .i64 f1, .int .i64 f2] 102)) W.heap.size f0 f1 f2 := ⟨A0, c0, by simpa using heap_alloc_new W _, hB.size, hr0⟩
def spec_l01Byte.f (s0_0 : List Int) (s0_1 : Int) (s0_2 : Int) : Option (Int × Int × Int) := if s0_1 < (s0_0.length : Int) then (if 0 ≤ s0_1 then (some (Go.bits .and .i64 (wrap64 ((Go.bits .and .i64 (Go.bits .xor .i64 ((wrap64 ((wrap64 (s0_2 * 6364136223846793005)) + 1442695040888963407)) / 8589934592) ((wrap64 ((wrap64 (s0_2 * 6364136223846793005)) + 1442695040888963407)) / 35184372088832)) 255) + (wrap64 (rd s0_0 s0_1)))) 255, wrap64 (s0_1 + 1), wrap64 ((wrap64 (s0_2 * 6364136223846793005)) + 1442695040888963407))) else (none)) else (some (Go.bits .and .i64 (Go.bits .xor .i64 ((wrap64 ((wrap64 (s0_2 * 6364136223846793005)) + 1442695040888963407)) / 8589934592) ((wrap64 ((wrap64 (s0_2 * 6364136223846793005)) + 1442695040888963407)) / 35184372088832)) 255, s0_1, wrap64 ((wrap64 (s0_2 * 6364136223846793005)) + 1442695040888963407)))
set_option maxHeartbeats 8000000 in
set_option maxRecDepth 100000 in
theorem spec_l01Byte.calls (g : Nat) (s0_0 : List Int) (s0_1 : Int) (s0_2 : Int) (r1 : Int) (r2 : Int) (r3 : Int) (w0 w : World) (hI : IsS102 w0 w g s0_0 s0_1 s0_2) (hB : Below w0.heap.size w0 w) (h : spec_l01Byte.f s0_0 s0_1 s0_2 = some (r1, r2, r3)) :
    Calls Try.prog 49 #[.pointer (some ⟨g, 0, none⟩)] w fun e w' => e = .returned (.int .i64 r1) ∧ IsS102 w0 w' g s0_0 r2 r3 ∧ Below w0.heap.size w0 w' ∧ KeepBut w w' g none := by
  have HI0 := Aside0.mk hI
  have HK := Aside0.mk (KeepBut.refl w g none)
  have HL := Aside0.mk hB.size
  clear hI
  have HW0 := Aside0.mk hB.size
  have HB := Aside0.mk hB
  clear hB
  have H := h
  unfold spec_l01Byte.f at H
  clear h
  by_cases c2 : s0_1 < (s0_0.length : Int)
  · rw [if_pos c2] at H
    have c2b0 := decide_eq_true c2
    clear c2
    have c3 := cp_ H
    replace H := ca_ H
    have c3b0 := decide_eq_true c3
    clear c3
    simp only [Option.some.injEq, Prod.mk.injEq] at H
    obtain ⟨rfl, rfl, rfl⟩ := H
    obtain ⟨ASz4_0, cSz4_0, HGz4, hgz4, HSz4_0⟩ := HI0.out
    have hcz4_0 := cellS102_0 HGz4
    have hcz4_1 := cellS102_1 HGz4
    have hcz4_2 := cellS102_2 HGz4
    have hfz4_1 := blk_frozen HGz4 1
    have hfz4_2 := blk_frozen HGz4 2
    clear HGz4 hgz4
    have p101 : 0 ≤ (s0_1 : Int) := of_decide_eq_true qe_
    have q101 : s0_1 < (s0_0.length : Int) := of_decide_eq_true qe_
    obtain ⟨ad101, e101, hx101_0⟩ := Kd.at_int HSz4_0 s0_1 p101 q101
    cases e101
    have hn101_0 : ad101.block ≠ g := Nat.ne_of_lt (Nat.lt_of_lt_of_le (by have := World.block_lt_of_cell? _ _ hx101_0; first | rwa [add_block] at this | exact this) (IsS102.ge HI0.out))
    replace hx101_0 := pw_cell_below HB.out hx101_0
    replace hx101_0 := (cell_far (p := ⟨g, 2, none⟩) (by first | (rw [add_block]; exact hn101_0) | (show (Addr.add _ _).block ≠ _; rw [add_block]; exact hn101_0) | exact hn101_0) (.int .i64 (wrap64 ((wrap64 (s0_2 * 6364136223846793005)) + 1442695040888963407)))).trans hx101_0
    (try have hy101_0 := fun (n_ : Nat) => (show (((w.drewN n_).setCell ⟨g, 2, none⟩ (.int .i64 (wrap64 ((wrap64 (s0_2 * 6364136223846793005)) + 1442695040888963407))))).cell? _ = some _ from hx101_0))
    clear hn101_0
    replace p101 := eq_true p101
    replace q101 := eq_true q101
    go_enter Try.func49, Try.ntmps49
    go_wp2
    repeat (go_quiet (fail); try go_wp2)
    go_ret
    exact ⟨qb_, hI_IsS102_HI0, hBI_, hK_⟩
  · rw [if_neg c2] at H
    have c2b0 := decide_eq_false c2
    clear c2
    simp only [Option.some.injEq, Prod.mk.injEq] at H
    obtain ⟨rfl, rfl, rfl⟩ := H
    obtain ⟨ASz5_0, cSz5_0, HGz5, hgz5, HSz5_0⟩ := HI0.out
    have hcz5_0 := cellS102_0 HGz5
    have hcz5_1 := cellS102_1 HGz5
    have hcz5_2 := cellS102_2 HGz5
    have hfz5_1 := blk_frozen HGz5 1
    have hfz5_2 := blk_frozen HGz5 2
    clear HGz5 hgz5
    go_enter Try.func49, Try.ntmps49
    go_wp2
    repeat (go_quiet (fail); try go_wp2)
    go_ret
    exact ⟨qb_, hI_IsS102_HI0, hBI_, hK_⟩
end Go.Proofs.Ytoijcallajegfaa.A
end
section
namespace Go.Proofs.Ytoijcallajegfaa.A
open Go.RowKit Go.Proofs.YtoijcallajegfaaW.PrintWords Go.Proofs.YtoijcallajegfaaW.PrintLast Go.Proofs.YtoijcallajegfaaW.PrintMore
attribute [local go_sem] max2_int min2_int max_two min_two max_three min_three max_four min_four
set_option linter.unusedVariables false
set_option linter.unusedSimpArgs false
def spec_l01New.l0 : Nat → List Int → Int → Int → Option (List Int × Int × Int)
  | 0, _, _, _ => none
  | k + 1, x0, x3, x4 => if x4 < (x0.length : Int) then (if x4 < 4000 then (if 0 ≤ x4 then (spec_l01New.l0 k x0 (Go.bits .and .i64 (wrap64 ((wrap64 ((wrap64 (x3 * 109)) + (wrap64 (rd x0 x4)))) + 7)) 1073741823) (wrap64 (x4 + 1))) else (none)) else (some (x0, 0, x3))) else (some (x0, 0, x3))
def spec_l01New.f (k : Nat) (l0 : List Int) : Option (List Int × Int × Int) := spec_l01New.l0 k l0 (wrap64 (2073 + (l0.length : Int))) 0
theorem spec_l01New.mono_l : ∀ k, (∀ y0 y1 y2, LeO (spec_l01New.l0 k y0 y1 y2) (spec_l01New.l0 (k + 1) y0 y1 y2))
  | 0 => fun _ _ _ r h => by simp [spec_l01New.l0] at h
  | k + 1 => by
    have ih0 := spec_l01New.mono_l k
    · intro y0 y1 y2
      unfold spec_l01New.l0
      repeat' first|exact ih0 _ _ _|exact lo_|refine LeO.ite ?_ ?_|refine LeO.bind ?_ (fun _ => ?_)
theorem spec_l01New.mono : ∀ a0 k, LeO (spec_l01New.f k a0) (spec_l01New.f (k + 1) a0) := by
  intro a0 k
  have ih0 := spec_l01New.mono_l k
  unfold spec_l01New.f
  repeat' first|exact ih0 _ _ _|exact lo_|refine LeO.ite ?_ ?_|refine LeO.bind ?_ (fun _ => ?_)
set_option maxHeartbeats 8000000 in
set_option maxRecDepth 100000 in
theorem spec_l01New.callsW (k : Nat) (A0 : Option Addr) (c0 : Nat) (l0 : List Int) (r1 : List Int) (r2 : Int) (r3 : Int) (w0 w : World) (hB : Below w0.heap.size w0 w) (hr0 : Kd.C (Kd.int .u8) w0 A0 l0.length l0) (hc0 : l0.length ≤ c0) (h : spec_l01New.f k l0 = some (r1, r2, r3)) :
    Calls Try.prog 62 #[.slice A0 l0.length c0] w fun e w' => ∃ g_ : Nat, e = .returned (.pointer (some ⟨g_, 0, none⟩)) ∧ IsS102 w0 w' g_ r1 r2 r3 ∧ Below w0.heap.size w0 w' ∧ Below w.heap.size w w' ∧ w.heap.size ≤ g_ := by
  have hu102 := Try.underlying102
  have HR0 := Aside0.mk hr0
  have HC0 := Aside0.mk hc0
  clear hr0 hc0
  have HBW := Aside0.mk (Below.refl w.heap.size w)
  have HW0 := Aside0.mk hB.size
  have HB := Aside0.mk hB
  clear hB
  have H := h
  unfold spec_l01New.f at H
  clear h
  have H' := Aside0.mk H
  clear H
  go_enter Try.func62, Try.ntmps62
  go_wp2
  go_loopg [3, 4] k (fun kq v3 v4 w' => ∃ (x3_1 : Int) (x4_1 : Int), v3 = .int .i64 x3_1 ∧ v4 = .int .i64 x4_1 ∧ Aside0 (spec_l01New.l0 kq l0 x3_1 x4_1 = some (r1, r2, r3)) ∧ Aside0 (kq ≤ k) ∧ Aside0 (Below w0.heap.size w0 w') ∧ Aside0 (Below w.heap.size w w'))
  case atStart => exact ⟨(wrap64 (2073 + (l0.length : Int))), (0), qc_, qc_, H', ⟨Nat.le_refl _⟩, ⟨hB_⟩, ⟨by repeat (first | (with_reducible first | exact HBW.out | apply below_alloc | apply pw_below_drewN | apply below_drew1) | exact HBW.out)⟩⟩
  case round =>
    clear H'
    obtain ⟨x3_1, x4_1, rfl, rfl, HA, HK1, HB, HBW⟩ := hrel
    cases gk with
    | zero => exact absurd HA.out (by simp [spec_l01New.l0])
    | succ k1 =>
      have H := HA.out
      clear HA
      simp only [spec_l01New.l0] at H
      by_cases c2 : x4_1 < (l0.length : Int)
      · rw [if_pos c2] at H
        have c2b0 := decide_eq_true c2
        clear c2
        by_cases c3 : x4_1 < 4000
        · rw [if_pos c3] at H
          have c3b0 := decide_eq_true c3
          clear c3
          have c4 := cp_ H
          replace H := ca_ H
          have c4b0 := decide_eq_true c4
          clear c4
          have H' := Aside0.mk H
          clear H
          have p102 : 0 ≤ (x4_1 : Int) := of_decide_eq_true qe_
          have q102 : x4_1 < (l0.length : Int) := of_decide_eq_true qe_
          obtain ⟨ad102, e102, hx102_0⟩ := Kd.at_int HR0.out x4_1 p102 q102
          cases e102
          replace hx102_0 := pw_cell_below HB.out hx102_0
          replace p102 := eq_true p102
          replace q102 := eq_true q102
          go_wp2
          go_roundg k1
          case measure => have := HK1.out; omega
          case rel => exact ⟨(Go.bits .and .i64 (wrap64 ((wrap64 ((wrap64 (x3_1 * 109)) + (wrap64 (rd l0 x4_1)))) + 7)) 1073741823), (wrap64 (x4_1 + 1)), qc_, qc_, H', ⟨by have := HK1.out; omega⟩, ⟨hB_⟩, ⟨by repeat (first | (with_reducible first | exact HBW.out | apply below_alloc | apply pw_below_drewN | apply below_drew1) | exact HBW.out)⟩⟩
        · rw [if_neg c3] at H
          have c3b0 := decide_eq_false c3
          clear c3
          simp only [Option.some.injEq, Prod.mk.injEq] at H
          obtain ⟨rfl, rfl, rfl⟩ := H
          go_wp2_with (first | ((with_reducible refine gate_dst (N := 31) rfl ?_); refine bx_ 31 #[.slice A0 l0.length c0, .int .i64 0, .int .i64 x3_1] 102 ?_; intro gb103 hg w5 hbox hb; replace HB := b1_ hb; have BK103 := Aside0.mk hbox; have GW103 := Aside0.mk ((gx_ hg (below_size (by repeat (first | (with_reducible first | exact HBW.out | apply below_alloc | apply pw_below_drewN | apply below_drew1) | exact HBW.out))) : w.heap.size ≤ gb103)); have GE103 := Aside0.mk ((Nat.le_trans HW0.out (gx_ hg (below_size (by repeat (first | (with_reducible first | exact HBW.out | apply below_alloc | apply pw_below_drewN | apply below_drew1) | exact HBW.out))) : w.heap.size ≤ gb103) : w0.heap.size ≤ gb103)); replace HBW := Aside0.mk (below_step HBW.out hb); clear hb hbox hg))
          go_ret
          exact ⟨_, rfl, (show IsS102 w0 _ gb103 l0 0 x3_1 from ⟨_, _, (kk_ BK103), GE103.out, HR0.out⟩), hB_, by repeat (first | (with_reducible first | exact HBW.out | apply below_alloc | apply pw_below_drewN | apply below_drew1 | refine below_set ?_ GW103.out) | exact HBW.out), GW103.out⟩
      · rw [if_neg c2] at H
        have c2b0 := decide_eq_false c2
        clear c2
        simp only [Option.some.injEq, Prod.mk.injEq] at H
        obtain ⟨rfl, rfl, rfl⟩ := H
        go_wp2_with (first | ((with_reducible refine gate_dst (N := 31) rfl ?_); refine bx_ 31 #[.slice A0 l0.length c0, .int .i64 0, .int .i64 x3_1] 102 ?_; intro gb104 hg w6 hbox hb; replace HB := b1_ hb; have BK104 := Aside0.mk hbox; have GW104 := Aside0.mk ((gx_ hg (below_size (by repeat (first | (with_reducible first | exact HBW.out | apply below_alloc | apply pw_below_drewN | apply below_drew1) | exact HBW.out))) : w.heap.size ≤ gb104)); have GE104 := Aside0.mk ((Nat.le_trans HW0.out (gx_ hg (below_size (by repeat (first | (with_reducible first | exact HBW.out | apply below_alloc | apply pw_below_drewN | apply below_drew1) | exact HBW.out))) : w.heap.size ≤ gb104) : w0.heap.size ≤ gb104)); replace HBW := Aside0.mk (below_step HBW.out hb); clear hb hbox hg))
        go_ret
        exact ⟨_, rfl, (show IsS102 w0 _ gb104 l0 0 x3_1 from ⟨_, _, (kk_ BK104), GE104.out, HR0.out⟩), hB_, by repeat (first | (with_reducible first | exact HBW.out | apply below_alloc | apply pw_below_drewN | apply below_drew1 | refine below_set ?_ GW104.out) | exact HBW.out), GW104.out⟩
theorem spec_l01New.calls (k : Nat) (A0 : Option Addr) (c0 : Nat) (l0 : List Int) (r1 : List Int) (r2 : Int) (r3 : Int) (w0 w : World) (hB : Below w0.heap.size w0 w) (hr0 : Kd.C (Kd.int .u8) w0 A0 l0.length l0) (hc0 : l0.length ≤ c0) (h : spec_l01New.f k l0 = some (r1, r2, r3)) :
    Calls Try.prog 62 #[.slice A0 l0.length c0] w fun e w' => ∃ g_ : Nat, e = .returned (.pointer (some ⟨g_, 0, none⟩)) ∧ IsS102 w0 w' g_ r1 r2 r3 ∧ Below w0.heap.size w0 w' ∧ Below w.heap.size w w' := by
  exact (spec_l01New.callsW k A0 c0 l0 r1 r2 r3 w0 w hB hr0 hc0 h).mono fun e w' ⟨g, h1, h2, h3, h4, _⟩ => ⟨g, h1, h2, h3, h4⟩
end Go.Proofs.Ytoijcallajegfaa.A
end
section
namespace Go.Proofs.Ytoijcallajegfaa.A
open Go.RowKit Go.Proofs.YtoijcallajegfaaW.PrintWords Go.Proofs.YtoijcallajegfaaW.PrintLast Go.Proofs.YtoijcallajegfaaW.PrintMore
attribute [local go_sem] max2_int min2_int max_two min_two max_three min_three max_four min_four
set_option linter.unusedVariables false
set_option linter.unusedSimpArgs false
def spec_l20New.l0 : Nat → List Int → Int → Int → Int → Int → Option (List Int × Int × Int)
  | 0, _, _, _, _, _ => none
  | k + 1, b, p, h, n, i => if i < n then ((spec_l01Byte.f b p h).bind fun t => (spec_l20New.l0 k b t.2.1 t.2.2 n (wrap64 (i + 1)))) else some (b, p, h)
def spec_l20New.f (k : Nat) (l0 : List Int) (a1 : Int) : Option (List Int × Int × Int) := (spec_l01New.f k l0).bind fun t => (spec_l20New.l0 k t.1 t.2.1 t.2.2 a1 0)
theorem spec_l20New.mono_l : ∀ k, (∀ y0 y1 y2 y3 y4, LeO (spec_l20New.l0 k y0 y1 y2 y3 y4) (spec_l20New.l0 (k + 1) y0 y1 y2 y3 y4))
  | 0 => fun _ _ _ _ _ r h => by simp [spec_l20New.l0] at h
  | k + 1 => by
    have ih0 := spec_l20New.mono_l k
    · intro y0 y1 y2 y3 y4
      unfold spec_l20New.l0
      repeat' first|exact ih0 _ _ _ _ _|exact lo_|refine LeO.ite ?_ ?_|refine LeO.bind ?_ (fun _ => ?_)
theorem spec_l20New.mono : ∀ a0 a1 k, LeO (spec_l20New.f k a0 a1) (spec_l20New.f (k + 1) a0 a1) := by
  intro a0 a1 k
  unfold spec_l20New.f
  exact LeO.bind (spec_l01New.mono _ _) (fun _ => spec_l20New.mono_l k _ _ _ _ _)
theorem below_keep {w0 w w1 w2 : World} {g : Nat} (h0 : Below w0.heap.size w0 w) (h1 : Below w.heap.size w w1) (h2 : Below w0.heap.size w0 w2) (k : KeepBut w1 w2 g none) (hg : w.heap.size ≤ g) : Below w.heap.size w w2 :=
  ⟨h2.os.trans h0.os.symm, h2.tape.trans h0.tape.symm, h2.output.trans h0.output.symm, Nat.le_trans h1.size k.1, fun i hi => (k.2 i (Nat.lt_of_lt_of_le hi h1.size) (by omega) (by simp)).trans (h1.block i hi)⟩
set_option maxHeartbeats 8000000 in
set_option maxRecDepth 100000 in
theorem spec_l20New.calls (k : Nat) (A0 : Option Addr) (c0 : Nat) (l0 : List Int) (a1 : Int) (r1 : List Int) (r2 : Int) (r3 : Int) (w0 w : World) (hB : Below w0.heap.size w0 w) (hr0 : Kd.C (Kd.int .u8) w0 A0 l0.length l0) (hc0 : l0.length ≤ c0) (h : spec_l20New.f k l0 a1 = some (r1, r2, r3)) :
    Calls Try.prog 48 #[.slice A0 l0.length c0, .int .i64 a1] w fun e w' => ∃ g_ : Nat, e = .returned (.pointer (some ⟨g_, 0, none⟩)) ∧ IsS102 w0 w' g_ r1 r2 r3 ∧ Below w0.heap.size w0 w' ∧ Below w.heap.size w w' := by
  have HR0 := Aside0.mk hr0
  have HC0 := Aside0.mk hc0
  have HB := Aside0.mk hB
  clear hr0 hc0 hB
  unfold spec_l20New.f at h
  obtain ⟨⟨b1, p1, h1⟩, F1, H⟩ := Option.bind_eq_some_iff.mp h
  have F1 := Aside0.mk F1
  have H' := Aside0.mk (show spec_l20New.l0 k b1 p1 h1 a1 0 = some (r1, r2, r3) from H)
  clear H h
  go_enter Try.func48, Try.ntmps48
  go_wp2_with ((with_reducible refine gate_callee (f := 62) rfl ?_); refine goesL_ _ rfl rfl Try.func62 (by kernel_rfl) rfl #[.slice A0 l0.length c0] rfl (by (try simp only [List.map_toArray, List.map_cons, List.map_nil]); first | done | rfl) ?_; refine (spec_l01New.callsW k A0 c0 l0 b1 p1 h1 w0 _ HB.out HR0.out HC0.out F1.out).mono ?_; rintro e w1 ⟨g, rfl, hI, hB0, hBW, hg⟩; refine ⟨_, rfl, ?_⟩; have HI := Aside0.mk hI; have HB0 := Aside0.mk hB0; have HBW := Aside0.mk hBW; have HG := Aside0.mk hg; clear hI hB0 hBW hg)
  go_loopg [6] k (fun kq v6 w' => ∃ (p i h : Int), v6 = .int .i64 i ∧ Aside0 (spec_l20New.l0 kq b1 p h a1 i = some (r1, r2, r3)) ∧ Aside0 (kq ≤ k) ∧ Aside0 (IsS102 w0 w' g b1 p h) ∧ Aside0 (Below w0.heap.size w0 w') ∧ Aside0 (Below w.heap.size w w'))
  case atStart => exact ⟨p1, 0, h1, rfl, H', ⟨Nat.le_refl _⟩, HI, HB0, HBW⟩
  case round =>
    clear H' HI HB0 HBW
    obtain ⟨p, i, h, rfl, HA, HK1, HI, HB0, HBW⟩ := hrel
    cases gk with
    | zero => exact absurd HA.out (by simp [spec_l20New.l0])
    | succ k1 =>
      have H := HA.out
      clear HA
      simp only [spec_l20New.l0] at H
      by_cases c3 : i < a1
      · rw [if_pos c3] at H
        have c3b0 := decide_eq_true c3
        clear c3
        obtain ⟨⟨x, p2, h2⟩, F2, H⟩ := Option.bind_eq_some_iff.mp H
        have F2 := Aside0.mk F2
        have H' := Aside0.mk H
        clear H
        go_wp2_with ((with_reducible refine gate_callee (f := 49) rfl ?_); refine goesL_ _ rfl rfl Try.func49 (by kernel_rfl) rfl #[.pointer (some ⟨g, 0, none⟩)] rfl (by (try simp only [List.map_toArray, List.map_cons, List.map_nil]); first | done | rfl) ?_; refine (spec_l01Byte.calls g b1 p h x p2 h2 w0 _ HI.out HB0.out F2.out).mono ?_; rintro e w2 ⟨rfl, hI, hB0, hk⟩; refine ⟨_, rfl, ?_⟩; replace HI := Aside0.mk hI; replace HB0 := Aside0.mk hB0; replace HBW := Aside0.mk (below_keep HB.out HBW.out hB0 hk HG.out); clear hI hB0 hk)
        go_roundg k1
        case measure => have := HK1.out; omega
        case rel => exact ⟨p2, wrap64 (i + 1), h2, rfl, H', ⟨by have := HK1.out; omega⟩, HI, HB0, HBW⟩
      · rw [if_neg c3] at H
        have c3b0 := decide_eq_false c3
        clear c3
        simp only [Option.some.injEq, Prod.mk.injEq] at H
        obtain ⟨rfl, rfl, rfl⟩ := H
        go_wp2
        go_ret
        exact ⟨g, rfl, HI.out, HB0.out, HBW.out⟩
end Go.Proofs.Ytoijcallajegfaa.A
end
section
namespace Go.Proofs.Ytoijcallajegfaa.A
open Go.RowKit Go.Proofs.YtoijcallajegfaaW.PrintWords Go.Proofs.YtoijcallajegfaaW.PrintLast Go.Proofs.YtoijcallajegfaaW.PrintMore
attribute [local go_sem] max2_int min2_int max_two min_two max_three min_three max_four min_four
set_option linter.unusedVariables false
set_option linter.unusedSimpArgs false
def spec_MakeNum.f (k : Nat) (l0 : List Int) (a1 : Int) : Option (Int) := (spec_l20New.f k l0 a1).bind fun bt105 => ((spec_l01Byte.f bt105.1 bt105.2.1 bt105.2.2).bind fun bt109 => ((spec_l01Byte.f bt105.1 bt109.2.1 bt109.2.2).bind fun bt112 => (some (wrap64 ((wrap64 (bt109.1 * 256)) + bt112.1)))))
theorem spec_MakeNum.mono : ∀ a0 a1 k, LeO (spec_MakeNum.f k a0 a1) (spec_MakeNum.f (k + 1) a0 a1) := by
  intro a0 a1 k
  unfold spec_MakeNum.f
  repeat' first|exact spec_l20New.mono _ _ _|exact lo_|refine LeO.ite ?_ ?_|refine LeO.bind ?_ (fun _ => ?_)
set_option maxHeartbeats 8000000 in
set_option maxRecDepth 100000 in
theorem spec_MakeNum.calls (k : Nat) (A0 : Option Addr) (c0 : Nat) (l0 : List Int) (a1 : Int) (r : Int) (w : World) (hr0 : Kd.C (Kd.int .u8) w A0 l0.length l0) (hc0 : l0.length ≤ c0) (h : spec_MakeNum.f k l0 a1 = some r) :
    Calls Try.prog 11 #[.slice A0 l0.length c0, .int .i64 a1] w fun e w' => e = .returned (.int .i64 r) ∧ Below w.heap.size w w' := by
  have HR0 := Aside0.mk hr0
  have HC0 := Aside0.mk hc0
  clear hr0 hc0
  have HB := Aside0.mk (Below.refl w.heap.size w)
  have H := h
  unfold spec_MakeNum.f at H
  clear h
  obtain ⟨⟨t105, t106, t107⟩, A3, H⟩ := bi_ H
  try dsimp only at H
  obtain ⟨⟨t109, t110, t111⟩, A4, H⟩ := bi_ H
  try dsimp only at H
  obtain ⟨⟨t112, t113, t114⟩, A5, H⟩ := bi_ H
  try dsimp only at H
  obtain rfl := Option.some.inj H
  go_enter Try.func11, Try.ntmps11
  go_wp2_with (first | ((with_reducible refine gate_callee (f := 48) rfl ?_); refine gL_ (some 8) Try.func48 #[.slice A0 l0.length c0, .int .i64 a1] rfl qa_ ?_; (with_reducible refine (spec_l20New.calls k _ _ l0 a1 t105 t106 t107 w _ ?side1 ?side2 ?side3 A3.out).mono ?_); (case side1 => repeat (first | (with_reducible first | exact HB.out | apply below_alloc | apply pw_below_drewN | apply below_drew1) | exact HB.out)); (case side2 => exact HR0.out); (case side3 => exact HC0.out); rintro e w6 ⟨g108, rfl, hi, hb, hb2⟩; refine ⟨_, rfl, ?_⟩; replace HB := Aside0.mk hb; have HI108 := Aside0.mk hi; clear hb hb2 hi) | ((with_reducible refine gate_callee (f := 49) rfl ?_); refine gL_ (some 10) Try.func49 #[.pointer (some ⟨g108, 0, none⟩)] rfl qa_ ?_; (with_reducible refine (spec_l01Byte.calls g108 t105 t106 t107 t109 t110 t111 w _ ?side1 ?side2 A4.out).mono ?_); (case side1 => repeat (first | (with_reducible first | exact HI108.out | apply IsS102.alloc | apply IsS102.drewN | apply IsS102.drew | apply IsS102.set_1 | apply IsS102.set_2) | exact HI108.out)); (case side2 => repeat (first | (with_reducible first | exact HB.out | apply below_alloc | apply pw_below_drewN | apply below_drew1 | refine below_set ?_ (IsS102.ge HI108.out)) | exact HB.out)); rintro e w7 ⟨rfl, hi, hb, hk⟩; refine ⟨_, rfl, ?_⟩; replace HB := Aside0.mk hb; replace HI108 := Aside0.mk hi; clear hb hk hi) | ((with_reducible refine gate_callee (f := 49) rfl ?_); refine gL_ (some 13) Try.func49 #[.pointer (some ⟨g108, 0, none⟩)] rfl qa_ ?_; (with_reducible refine (spec_l01Byte.calls g108 t105 t110 t111 t112 t113 t114 w _ ?side1 ?side2 A5.out).mono ?_); (case side1 => repeat (first | (with_reducible first | exact HI108.out | apply IsS102.alloc | apply IsS102.drewN | apply IsS102.drew | apply IsS102.set_1 | apply IsS102.set_2) | exact HI108.out)); (case side2 => repeat (first | (with_reducible first | exact HB.out | apply below_alloc | apply pw_below_drewN | apply below_drew1 | refine below_set ?_ (IsS102.ge HI108.out)) | exact HB.out)); rintro e w8 ⟨rfl, hi, hb, hk⟩; refine ⟨_, rfl, ?_⟩; replace HB := Aside0.mk hb; replace HI108 := Aside0.mk hi; clear hb hk hi))
  go_ret
  exact ⟨qb_, hBI_⟩
end Go.Proofs.Ytoijcallajegfaa.A
end
section
namespace Go.Proofs.Ytoijcallajegfaa.A
open Go.RowKit Go.Proofs.YtoijcallajegfaaW.PrintWords Go.Proofs.YtoijcallajegfaaW.PrintLast Go.Proofs.YtoijcallajegfaaW.PrintMore
attribute [local go_sem] max2_int min2_int max_two min_two max_three min_three max_four min_four
set_option linter.unusedVariables false
set_option linter.unusedSimpArgs false
def impl_PermOk.l0 : Nat → List Int → List Bool → Int → Option Bool
  | 0, _, _, _ => none
  | k + 1, l, s, i => if i < (l.length : Int) then (if 0 ≤ i then (if rd l i < 0 then some false else (if rd l i ≥ (l.length : Int) then some false else (if rdOf false s (rd l i) = true then some false else impl_PermOk.l0 k l (s.set (rd l i).toNat true) (wrap64 (i + 1))))) else none) else some true
def impl_PermOk.f (k : Nat) (l0 : List Int) : Option Bool := if (l0.length : Int) > 24 then some false else impl_PermOk.l0 k l0 (List.replicate 24 false) 0
theorem impl_PermOk.mono_l : ∀ k, (∀ y0 y1 y2, LeO (impl_PermOk.l0 k y0 y1 y2) (impl_PermOk.l0 (k + 1) y0 y1 y2))
  | 0 => fun _ _ _ r h => by simp [impl_PermOk.l0] at h
  | k + 1 => by
    have ih0 := impl_PermOk.mono_l k
    · intro y0 y1 y2
      unfold impl_PermOk.l0
      repeat' first|exact ih0 _ _ _|exact lo_|refine LeO.ite ?_ ?_|refine LeO.bind ?_ (fun _ => ?_)
theorem impl_PermOk.mono : ∀ a0 k, LeO (impl_PermOk.f k a0) (impl_PermOk.f (k + 1) a0) := by
  intro a0 k
  unfold impl_PermOk.f
  exact LeO.ite (LeO.refl _) (impl_PermOk.mono_l k _ _ _)
def Z24 : Array Value := #[Value.bool false, Value.bool false, Value.bool false, Value.bool false, Value.bool false, Value.bool false, Value.bool false, Value.bool false, Value.bool false, Value.bool false, Value.bool false, Value.bool false, Value.bool false, Value.bool false, Value.bool false, Value.bool false, Value.bool false, Value.bool false, Value.bool false, Value.bool false, Value.bool false, Value.bool false, Value.bool false, Value.bool false]
theorem row_same (w : World) (g : Nat) (t : TypeId) (cur : Array Value) (hg : w.heap[g]? = some (.cells cur t (0, 0))) : w.setRow g cur = w := by
  have hv : ∀ h, w.heap[g]'h = .cells cur t (0, 0) := fun h => (Array.getElem?_eq_some_iff.1 hg).2
  unfold World.setRow
  cases w with
  | mk heap tape drawn os output =>
    congr 1
    apply Array.ext
    · simp
    · intro k h1 h2
      simp only [Array.getElem_modify]
      split
      · rename_i hk; subst hk; simp at hv; simp [hv h2]
      · rfl
theorem wpList_val {P : Program} {ops : Array Oper} {rest : List Oper} {o : Oper} {a : Act} {Q : Exit → Act → World → Prop} {w : World} (hg : o.guard = none) (v : Value) (w1 : World) (hrun : (execOp a.eval o).run P w = .ok (.value v) w1) (h : wpList P ops Q rest (a.put o.dst v) w1) : wpList P ops Q (o :: rest) a w :=
  wpList_plain hg fun K hK => by unfold Oper.wp; rw [hrun]; exact hK _ _ h
theorem perm_start (w : World) : Kd.R Kd.bool 137 (w.alloc (.cells Z24 137)) w.heap.size (fun _ => True) (.slice (some ⟨w.heap.size, 0, none⟩) 24 24) (List.replicate 24 false) := by
  have h := World.ownsRow_lit (base := w.heap.size) (e := 137) (size := 1) w Z24 24 (Nat.le_refl _) (by unfold maxLen; omega) rfl
  exact Kd.R_of_own (xs := List.replicate 24 false) h (fun _ _ => trivial)
set_option maxHeartbeats 8000000 in
set_option maxRecDepth 100000 in
theorem impl_PermOk.calls (k : Nat) (A0 : Option Addr) (c0 : Nat) (l0 : List Int) (r : Bool) (w : World) (hr0 : Kd.C (Kd.int .i64) w A0 l0.length l0) (hc0 : l0.length ≤ c0) (h : impl_PermOk.f k l0 = some r) :
    Calls Try.prog 109 #[.slice A0 l0.length c0] w fun e w' => e = .returned (.bool r) ∧ Below w.heap.size w w' := by
  have HR0 := Aside0.mk hr0
  have HC0 := Aside0.mk hc0
  clear hr0 hc0
  have hst := perm_start w
  have HST := Aside0.mk hst
  clear hst
  have hb0 : Below w.heap.size w (w.alloc (.cells Z24 137)) := (Below.refl _ _).alloc (Nat.le_refl _) _
  have HB0 := Aside0.mk hb0
  clear hb0
  unfold impl_PermOk.f at h
  by_cases c2 : (l0.length : Int) > 24
  · rw [if_pos c2] at h
    have c2b0 : decide (24 < (l0.length : Int)) = true := decide_eq_true c2
    have c2b1 : decide (24 < l0.length) = true := decide_eq_true (by omega)
    clear c2
    obtain rfl := Option.some.inj h
    go_enter Try.func109, Try.ntmps109
    go_upto_region 1 with (fail)
    refine wp_region_lit ?_
    refine wpList_val rfl (.agg Z24) w (by as_aux_lemma => kernel_rfl) ?_
    refine wpList_val rfl (.pointer (some ⟨w.heap.size, 0, none⟩)) (w.alloc (.cells Z24 137)) (by as_aux_lemma => kernel_rfl) ?_
    refine wpList_store_row rfl 137 (.tmp 3) (.tmp 6) rfl w.heap.size Z24 rfl rfl 137 Z24 (heap_alloc_new _ _) (by as_aux_lemma => kernel_rfl) rfl (by as_aux_lemma => kernel_rfl) ?_
    rw [row_same _ _ _ _ (heap_alloc_new _ _)]
    generalize w.alloc (.cells Z24 137) = wq at HB0 ⊢
    generalize Value.agg Z24 = ag
    go_wp2
    go_ret
    exact ⟨rfl, HB0.out⟩
  · rw [if_neg c2] at h
    have hn : l0.length ≤ 24 := by omega
    have HN := Aside0.mk hn
    clear hn
    have c2b0 : decide (24 < (l0.length : Int)) = false := decide_eq_false c2
    have c2b1 : decide (24 < l0.length) = false := decide_eq_false (by omega)
    clear c2
    have H' := Aside0.mk h
    clear h
    go_enter Try.func109, Try.ntmps109
    go_upto_region 1 with (fail)
    refine wp_region_lit ?_
    refine wpList_val rfl (.agg Z24) w (by as_aux_lemma => kernel_rfl) ?_
    refine wpList_val rfl (.pointer (some ⟨w.heap.size, 0, none⟩)) (w.alloc (.cells Z24 137)) (by as_aux_lemma => kernel_rfl) ?_
    refine wpList_store_row rfl 137 (.tmp 3) (.tmp 6) rfl w.heap.size Z24 rfl rfl 137 Z24 (heap_alloc_new _ _) (by as_aux_lemma => kernel_rfl) rfl (by as_aux_lemma => kernel_rfl) ?_
    rw [row_same _ _ _ _ (heap_alloc_new _ _)]
    generalize w.alloc (.cells Z24 137) = wq at HB0 HST ⊢
    generalize Value.agg Z24 = ag
    go_wp2
    go_loopg [12] k (fun kq v12 w' => ∃ (s : List Bool) (i : Int), v12 = .int .i64 i ∧ Aside0 (impl_PermOk.l0 kq l0 s i = some r) ∧ Aside0 (kq ≤ k) ∧ Aside0 (s.length = 24) ∧ Aside0 (Kd.R Kd.bool 137 w' w.heap.size (fun _ => True) (.slice (some ⟨w.heap.size, 0, none⟩) 24 24) s) ∧ Aside0 (Below w.heap.size w w'))
    case atStart => exact ⟨List.replicate 24 false, 0, rfl, H', ⟨Nat.le_refl _⟩, ⟨rfl⟩, HST, HB0⟩
    case round =>
      clear H' HST HB0
      obtain ⟨s, i, rfl, HA, HK1, HS, HO, HB⟩ := hrel
      cases gk with
      | zero => exact absurd HA.out (by simp [impl_PermOk.l0])
      | succ k1 =>
        have H := HA.out
        clear HA
        simp only [impl_PermOk.l0] at H
        by_cases c3 : i < (l0.length : Int)
        · rw [if_pos c3] at H
          have c4 := cp_ H
          replace H := ca_ H
          have c3b0 := decide_eq_true c3
          have c4b0 := decide_eq_true c4
          obtain ⟨ad, e0, hx⟩ := Kd.at_int HR0.out i c4 c3
          cases e0
          replace hx := (HB.out.cell (World.block_lt_of_cell? w _ hx)).trans hx
          replace c3 := eq_true c3
          replace c4 := eq_true c4
          by_cases c5 : rd l0 i < 0
          · rw [if_pos c5] at H
            have c5b0 := decide_eq_true c5
            clear c5
            obtain rfl := Option.some.inj H
            go_wp2
            go_ret
            exact ⟨rfl, HB.out⟩
          · rw [if_neg c5] at H
            have c5b0 := decide_eq_false c5
            by_cases c6 : rd l0 i ≥ (l0.length : Int)
            · rw [if_pos c6] at H
              have c6b0 : decide ((l0.length : Int) ≤ rd l0 i) = true := decide_eq_true c6
              clear c5 c6
              obtain rfl := Option.some.inj H
              go_wp2
              go_ret
              exact ⟨rfl, HB.out⟩
            · rw [if_neg c6] at H
              have c6b0 : decide ((l0.length : Int) ≤ rd l0 i) = false := decide_eq_false c6
              have p1 : 0 ≤ rd l0 i := by omega
              have p2 : rd l0 i < ((24 : Nat) : Int) := by have := HN.out; omega
              have p2' : rd l0 i < 24 := p2
              obtain ⟨hy, hz⟩ := Kd.R_celln false HO.out (rd l0 i) p1 p2
              have p1b : decide (0 ≤ rd l0 i) = true := decide_eq_true p1
              have p2b : decide (rd l0 i < 24) = true := decide_eq_true p2'
              clear c5 c6
              by_cases c7 : rdOf false s (rd l0 i) = true
              · rw [if_pos c7] at H
                rw [c7] at hy
                clear c7
                obtain rfl := Option.some.inj H
                go_wp2
                go_ret
                exact ⟨rfl, HB.out⟩
              · rw [if_neg c7] at H
                replace c7 := Bool.eq_false_iff.mpr c7
                rw [c7] at hy
                clear c7
                have H' := Aside0.mk H
                clear H
                have HP := Kd.R_putg HO.out (rd l0 i) true
                have HP' := Aside0.mk HP
                clear HP
                go_wp2
                go_roundg k1
                case measure => have := HK1.out; omega
                case rel => exact ⟨s.set (rd l0 i).toNat true, wrap64 (i + 1), rfl, H', ⟨by have := HK1.out; omega⟩, ⟨by rw [List.length_set]; exact HS.out⟩, ⟨HP'.out.1⟩, ⟨below_set HB.out (Nat.le_refl _)⟩⟩
        · rw [if_neg c3] at H
          have c3b0 := decide_eq_false c3
          clear c3
          obtain rfl := Option.some.inj H
          go_wp2
          go_ret
          exact ⟨rfl, HB.out⟩
end Go.Proofs.Ytoijcallajegfaa.A
end
section
namespace Go.Proofs.Ytoijcallajegfaa.A
open Go.RowKit Go.Proofs.YtoijcallajegfaaW.PrintWords Go.Proofs.YtoijcallajegfaaW.PrintLast Go.Proofs.YtoijcallajegfaaW.PrintMore
attribute [local go_sem] max2_int min2_int max_two min_two max_three min_three max_four min_four
set_option linter.unusedVariables false
set_option linter.unusedSimpArgs false
mutual
def impl_IsTransitive.j0 : Nat → List Int → List Int → Bool → Option (Bool)
  | 0, _, _, _ => none
  | k + 1, x0, x1, x29 => if x29 = true then (some false) else (if 0 ≤ (x0.length : Int) then (if ((x0.length : Int) : Int).toNat ≤ 281474976710656 then ((some (List.replicate ((x0.length : Int) : Int).toNat false : List Bool)).bind fun y117 => (if 0 < (y117.length : Int) then (impl_IsTransitive.l0 k x0 x1 (y117.set (0 : Int).toNat true) (([0] : List Int)) 0) else (none))) else (none)) else (none))
def impl_IsTransitive.l0 : Nat → List Int → List Int → List Bool → List Int → Int → Option (Bool)
  | 0, _, _, _, _, _ => none
  | k + 1, x0, x1, x5, x6, x7 => if x7 < (x6.length : Int) then (if 0 ≤ x7 then (if 0 ≤ (rd x6 x7) then (if (rd x6 x7) < (x0.length : Int) then (if (rd x6 x7) < (x1.length : Int) then ((some (([rd x0 (rd x6 x7), rd x1 (rd x6 x7)] : List Int) : List Int)).bind fun y128 => (impl_IsTransitive.l1 k x0 x1 x5 x6 x7 y128 (y128.length : Int) 0)) else (none)) else (none)) else (none)) else (none)) else (some ((x6.length : Int) == (x0.length : Int)))
def impl_IsTransitive.l1 : Nat → List Int → List Int → List Bool → List Int → Int → List Int → Int → Int → Option (Bool)
  | 0, _, _, _, _, _, _, _, _ => none
  | k + 1, x0, x1, x5, x6, x7, x56, x57, x58 => if x58 < x57 then (if 0 ≤ x58 then (if x58 < (x56.length : Int) then (if 0 ≤ (rd x56 x58) then (if (rd x56 x58) < (x5.length : Int) then (if (rdOf false x5 (rd x56 x58) = true) then (impl_IsTransitive.l1 k x0 x1 x5 x6 x7 x56 x57 (wrap64 (x58 + 1))) else (if x6.length < 17592186044416 then (impl_IsTransitive.l1 k x0 x1 (x5.set ((rd x56 x58) : Int).toNat true) (x6 ++ [rd x56 x58]) x7 x56 x57 (wrap64 (x58 + 1))) else (none))) else (none)) else (none)) else (none)) else (none)) else (impl_IsTransitive.l0 k x0 x1 x5 x6 (wrap64 (x7 + 1)))
end
def impl_IsTransitive.f (k : Nat) (l0 : List Int) (l1 : List Int) : Option (Bool) := (impl_PermOk.f k l0).bind fun t115 => (if t115 = true then ((impl_PermOk.f k l1).bind fun t116 => (if t116 = true then (if (l0.length : Int) = (l1.length : Int) then (impl_IsTransitive.j0 k l0 l1 ((l0.length : Int) == 0)) else (impl_IsTransitive.j0 k l0 l1 true)) else (impl_IsTransitive.j0 k l0 l1 true))) else (impl_IsTransitive.j0 k l0 l1 true))
theorem impl_IsTransitive.mono_l : ∀ k, (∀ y0 y1 y2, LeO (impl_IsTransitive.j0 k y0 y1 y2) (impl_IsTransitive.j0 (k + 1) y0 y1 y2)) ∧ (∀ y0 y1 y2 y3 y4, LeO (impl_IsTransitive.l0 k y0 y1 y2 y3 y4) (impl_IsTransitive.l0 (k + 1) y0 y1 y2 y3 y4)) ∧ (∀ y0 y1 y2 y3 y4 y5 y6 y7, LeO (impl_IsTransitive.l1 k y0 y1 y2 y3 y4 y5 y6 y7) (impl_IsTransitive.l1 (k + 1) y0 y1 y2 y3 y4 y5 y6 y7))
  | 0 => ⟨fun _ _ _ r h => by simp [impl_IsTransitive.j0] at h, fun _ _ _ _ _ r h => by simp [impl_IsTransitive.l0] at h, fun _ _ _ _ _ _ _ _ r h => by simp [impl_IsTransitive.l1] at h⟩
  | k + 1 => by
    obtain ⟨ih0, ih1, ih2⟩ := impl_IsTransitive.mono_l k
    refine ⟨?_, ?_, ?_⟩
    · intro y0 y1 y2
      unfold impl_IsTransitive.j0
      repeat' first|exact ih0 _ _ _|exact ih1 _ _ _ _ _|exact ih2 _ _ _ _ _ _ _ _|exact impl_PermOk.mono _ _|exact lo_|refine LeO.ite ?_ ?_|refine LeO.bind ?_ (fun _ => ?_)
    · intro y0 y1 y2 y3 y4
      unfold impl_IsTransitive.l0
      repeat' first|exact ih0 _ _ _|exact ih1 _ _ _ _ _|exact ih2 _ _ _ _ _ _ _ _|exact impl_PermOk.mono _ _|exact lo_|refine LeO.ite ?_ ?_|refine LeO.bind ?_ (fun _ => ?_)
    · intro y0 y1 y2 y3 y4 y5 y6 y7
      unfold impl_IsTransitive.l1
      repeat' first|exact ih0 _ _ _|exact ih1 _ _ _ _ _|exact ih2 _ _ _ _ _ _ _ _|exact impl_PermOk.mono _ _|exact lo_|refine LeO.ite ?_ ?_|refine LeO.bind ?_ (fun _ => ?_)
theorem impl_IsTransitive.mono : ∀ a0 a1 k, LeO (impl_IsTransitive.f k a0 a1) (impl_IsTransitive.f (k + 1) a0 a1) := by
  intro a0 a1 k
  obtain ⟨ih0, ih1, ih2⟩ := impl_IsTransitive.mono_l k
  unfold impl_IsTransitive.f
  repeat' first|exact ih0 _ _ _|exact ih1 _ _ _ _ _|exact ih2 _ _ _ _ _ _ _ _|exact impl_PermOk.mono _ _|exact lo_|refine LeO.ite ?_ ?_|refine LeO.bind ?_ (fun _ => ?_)
def impl_IsTransitive.T9 : Bool × List (List Nat × List Nat) := (true, [([], []), ([], []), ([], []), ([1, 2], [1, 2]), ([3], [3]), ([0, 4], [0, 4]), ([5], [5]), ([], []), ([], []), ([], []), ([8, 9], [8, 9]), ([10], [10]), ([7, 11], [7, 11]), ([12], [12]), ([6, 13], [6, 13]), ([14], [14]), ([], [])])
def impl_IsTransitive.B9 : List Nat := [0, 0, 0, 6, 14, 31, 63, 0, 0, 0, 768, 1792, 3968, 8064, 16383, 32767, 0]
theorem impl_IsTransitive.tab9 : rtab .any (opsOf Try.f61 9) = impl_IsTransitive.T9 := by kernel_rfl
theorem impl_IsTransitive.bits9 : waitsOk impl_IsTransitive.T9.2 impl_IsTransitive.B9 = true := by kernel_rfl
set_option maxHeartbeats 8000000 in
set_option maxRecDepth 100000 in
theorem impl_IsTransitive.calls (k : Nat) (A0 : Option Addr) (c0 : Nat) (l0 : List Int) (A1 : Option Addr) (c1 : Nat) (l1 : List Int) (r : Bool) (w : World) (hr0 : Kd.C (Kd.int .i64) w A0 l0.length l0) (hc0 : l0.length ≤ c0) (hr1 : Kd.C (Kd.int .i64) w A1 l1.length l1) (hc1 : l1.length ≤ c1) (h : impl_IsTransitive.f k l0 l1 = some r) :
    Calls Try.prog 61 #[.slice A0 l0.length c0, .slice A1 l1.length c1] w fun e w' => e = .returned (.bool r) ∧ Below w.heap.size w w' := by
  have HR0 := Aside0.mk hr0
  have HC0 := Aside0.mk hc0
  clear hr0 hc0
  have HR1 := Aside0.mk hr1
  have HC1 := Aside0.mk hc1
  clear hr1 hc1
  have HB := Aside0.mk (Below.refl w.heap.size w)
  have H := h
  unfold impl_IsTransitive.f at H
  clear h
  have HC3 := Aside0.mk H
  clear H
  go_enter Try.func61, Try.ntmps61
  go_upto_region 1 with (fail)
  go_cut [29] (fun v29 wc => ∃ (kq : Nat) (x29_2 : Bool), v29 = .bool x29_2 ∧ Aside0 (impl_IsTransitive.j0 kq l0 l1 x29_2 = some r) ∧ Aside0 (kq ≤ k) ∧ Aside0 (Below w.heap.size w wc))
  case first =>
    have H := HC3.out
    clear HC3
    obtain ⟨t115, A4, H⟩ := bi_ H
    by_cases c5 : t115 = true
    · subst c5
      rw [if_pos rfl] at H
      obtain ⟨t116, A6, H⟩ := bi_ H
      by_cases c7 : t116 = true
      · subst c7
        rw [if_pos rfl] at H
        by_cases c8 : (l0.length : Int) = (l1.length : Int)
        · rw [if_pos c8] at H
          have c8b0 : ((l0.length : Int) == (l1.length : Int)) = true := beq_iff_eq.mpr c8
          have c8b1 : ((l0.length : Int) != (l1.length : Int)) = false := bne_eq_false_iff_eq.mpr c8
          have c8b2 : (l0.length == l1.length) = true := by first | simpa using c8 | (simp at c8 ⊢; omega)
          clear c8
          (first | rw [c8b0] | (simp only [i64_w, i32_w]; rw [c8b0]) | skip)
          have H' := Aside0.mk H
          clear H
          go_wp2_with (first | ((with_reducible refine gate_callee (f := 109) rfl ?_); refine gL_ (some 11) Try.func109 #[.slice A0 l0.length c0] rfl qa_ ?_; (with_reducible refine (impl_PermOk.calls k _ _ l0 true _ (cb_ HR0) HC0.out A4.out).mono ?_); rintro e w9 ⟨rfl, hb⟩; refine ⟨_, rfl, ?_⟩; replace HB := b1_ hb; clear hb) | (go_at_call 109; (with_reducible refine (impl_PermOk.calls k _ _ l1 true _ (cb_ HR1) HC1.out A6.out).mono ?_); rintro e w10 ⟨rfl, hb⟩; replace HB := b1_ hb; clear hb))
          go_meet
          case rel => exact ⟨_, (((l0.length : Int) == 0)), qc_, H', ⟨qd_⟩, ⟨hB_⟩⟩
        · rw [if_neg c8] at H
          have c8b0 : ((l0.length : Int) == (l1.length : Int)) = false := beq_eq_false_iff_ne.mpr c8
          have c8b1 : ((l0.length : Int) != (l1.length : Int)) = true := bne_iff_ne.mpr c8
          have c8b2 : (l0.length == l1.length) = false := by first | simpa using c8 | (simp at c8 ⊢; omega)
          (first | rw [c8b0] | (simp only [i64_w, i32_w]; rw [c8b0]) | skip)
          have H' := Aside0.mk H
          clear H
          go_wp2_with (first | ((with_reducible refine gate_callee (f := 109) rfl ?_); refine gL_ (some 11) Try.func109 #[.slice A0 l0.length c0] rfl qa_ ?_; (with_reducible refine (impl_PermOk.calls k _ _ l0 true _ (cb_ HR0) HC0.out A4.out).mono ?_); rintro e w11 ⟨rfl, hb⟩; refine ⟨_, rfl, ?_⟩; replace HB := b1_ hb; clear hb) | (go_at_call 109; (with_reducible refine (impl_PermOk.calls k _ _ l1 true _ (cb_ HR1) HC1.out A6.out).mono ?_); rintro e w12 ⟨rfl, hb⟩; replace HB := b1_ hb; clear hb))
          go_meet
          case rel => exact ⟨_, (true), qc_, H', ⟨qd_⟩, ⟨hB_⟩⟩
      · replace c7 := Bool.eq_false_iff.mpr c7
        subst c7
        have H1 : (impl_IsTransitive.j0 k l0 l1 true) = some r := by rw [if_neg (show ¬ (false = true) by decide)] at H; exact H
        clear H
        have H := H1
        clear H1
        have H' := Aside0.mk H
        clear H
        go_wp2_with (first | ((with_reducible refine gate_callee (f := 109) rfl ?_); refine gL_ (some 11) Try.func109 #[.slice A0 l0.length c0] rfl qa_ ?_; (with_reducible refine (impl_PermOk.calls k _ _ l0 true _ (cb_ HR0) HC0.out A4.out).mono ?_); rintro e w13 ⟨rfl, hb⟩; refine ⟨_, rfl, ?_⟩; replace HB := b1_ hb; clear hb) | (go_at_call 109; (with_reducible refine (impl_PermOk.calls k _ _ l1 false _ (cb_ HR1) HC1.out A6.out).mono ?_); rintro e w14 ⟨rfl, hb⟩; replace HB := b1_ hb; clear hb))
        go_meet
        case rel => exact ⟨_, (true), qc_, H', ⟨qd_⟩, ⟨hB_⟩⟩
    · replace c5 := Bool.eq_false_iff.mpr c5
      subst c5
      have H1 : (impl_IsTransitive.j0 k l0 l1 true) = some r := by rw [if_neg (show ¬ (false = true) by decide)] at H; exact H
      clear H
      have H := H1
      clear H1
      have H' := Aside0.mk H
      clear H
      go_wp2_with (first | ((with_reducible refine gate_callee (f := 109) rfl ?_); refine gL_ (some 11) Try.func109 #[.slice A0 l0.length c0] rfl qa_ ?_; (with_reducible refine (impl_PermOk.calls k _ _ l0 false _ (cb_ HR0) HC0.out A4.out).mono ?_); rintro e w15 ⟨rfl, hb⟩; refine ⟨_, rfl, ?_⟩; replace HB := b1_ hb; clear hb))
      go_meet
      case rel => exact ⟨_, (true), qc_, H', ⟨qd_⟩, ⟨hB_⟩⟩
  case rest =>
    clear HC3
    obtain ⟨kq, x29_2, rfl, HA, HJ2, HB⟩ := hcut
    cases kq with
    | zero => exact absurd HA.out (by simp [impl_IsTransitive.j0])
    | succ kj2 =>
      have H := HA.out
      clear HA
      simp only [impl_IsTransitive.j0] at H
      by_cases c16 : x29_2 = true
      · subst c16
        rw [if_pos rfl] at H
        obtain rfl := Option.some.inj H
        go_wp2
        go_ret
        exact ⟨qb_, hB_⟩
      · replace c16 := Bool.eq_false_iff.mpr c16
        subst c16
        have H1 : (if 0 ≤ (l0.length : Int) then (if ((l0.length : Int) : Int).toNat ≤ 281474976710656 then ((some (List.replicate ((l0.length : Int) : Int).toNat false : List Bool)).bind fun y117 => (if 0 < (y117.length : Int) then (impl_IsTransitive.l0 kj2 l0 l1 (y117.set (0 : Int).toNat true) (([0] : List Int)) 0) else (none))) else (none)) else (none)) = some r := by rw [if_neg (show ¬ (false = true) by decide)] at H; exact H
        clear H
        have H := H1
        clear H1
        have c17 := cp_ H
        replace H := ca_ H
        have c17b0 := eq_true c17
        have c17b1 := decide_eq_true c17
        clear c17
        have c18 := cp_ H
        replace H := ca_ H
        have c18b0 := eq_true c18
        have c18b1 := decide_eq_true c18
        clear c18
        obtain ⟨y117, hy117⟩ : ∃ y_ : List Bool, y_ = (List.replicate ((l0.length : Int) : Int).toNat false) := ⟨_, rfl⟩
        replace H : (if 0 < (y117.length : Int) then (impl_IsTransitive.l0 kj2 l0 l1 (y117.set (0 : Int).toNat true) (([0] : List Int)) 0) else (none)) = some r := by first | (rw [hy117]; exact H) | exact H
        have Ny117 := Aside0.mk hy117
        clear hy117
        have c19 := cp_ H
        replace H := ca_ H
        have c19b0 := decide_eq_true c19
        have c19b1 : decide (0 < y117.length) = true := decide_eq_true (by omega)
        clear c19
        obtain ⟨y120, hy120⟩ : ∃ y_ : List Bool, y_ = (y117.set (0 : Int).toNat true) := ⟨_, rfl⟩
        replace H : (impl_IsTransitive.l0 kj2 l0 l1 y120 (([0] : List Int)) 0) = some r := by first | (rw [hy120]; exact H) | exact H
        have Ny120 := Aside0.mk hy120
        clear hy120
        obtain ⟨y121, hy121⟩ : ∃ y_ : List Int, y_ = (([0] : List Int)) := ⟨_, rfl⟩
        replace H : (impl_IsTransitive.l0 kj2 l0 l1 y120 y121 0) = some r := by first | (rw [hy121]; exact H) | exact H
        have Ny121 := Aside0.mk hy121
        clear hy121
        have H' := Aside0.mk H
        clear H
        go_wp2_with (first | ((with_reducible refine gate_dst (N := 32) rfl ?_); (try (refine gate_guard (by rfl) ?_; dsimp only)); refine Kd.R_make Kd.bool _ 4 rfl (N := 32) rfl 111 _ _ rfl (l0.length : Int) rfl rfl Try.underlying111 (.bool false) 1 info4 rfl (by decide) (by omega) false (ok := fun _ => True) (okp := fun _ => True) rfl (fun _ hk => hk) trivial (of_decide_eq_true qe_) (Nat.le_trans (Nat.mul_le_mul_right _ (of_decide_eq_true qe_ : (l0.length : Int).toNat ≤ 281474976710656)) (by omega)) (Below.refl _ _) (Nat.le_refl _) ?_; intro v118 w21 ho22 hb hg_ hnew_; clear hg_ hnew_; (first | rw [← Ny117.out] at ho22 | (simp only [Int.reduceToNat] at ho22; rw [← Ny117.out] at ho22)); have HO119 := rl_ w ho22; replace HB := b1_ hb; clear hb ho22; have p20 : 0 ≤ (0 : Int) := (by omega); have q20 : (0 : Int) < ((y117.length : Int) : Int) := of_decide_eq_true qe_; have qi20 : (0 < y117.length) = True := eq_true (by omega); obtain ⟨go20, co20, eo20, gb20, gl20, cl20, HG20⟩ := Kd.R_form HO119.out (by omega); (first | cases eo20 | (injection eo20 with ea_ en_ ec_; (first | subst ea_ | (injection ea_ with ea_; subst ea_)); subst ec_; clear en_)); have GB20 := Aside0.mk gb20; have GG20 := Aside0.mk HG20; clear gb20 gl20 HG20; obtain ⟨hx20_0, hf20_0⟩ := Kd.R_celln false HO119.out (0 : Int) p20 q20; (try rw [show ((0 : Int)).toNat = 0 from rfl] at hx20_0); (try simp only [Nat.reduceMul, Nat.zero_mul, Nat.zero_add, Nat.reduceAdd] at hx20_0); (try rw [show ((0 : Int)).toNat = 0 from rfl] at hf20_0); (try simp only [Nat.reduceMul, Nat.zero_mul, Nat.zero_add, Nat.reduceAdd] at hf20_0); replace p20 := eq_true p20; replace q20 := eq_true q20; obtain ⟨hy23_, hz23_⟩ := Kd.R_celln false HO119.out (0 : Int) (by omega) (of_decide_eq_true qe_); (try simp only [Int.reduceToNat, Int.toNat_zero, Int.toNat_ofNat, Nat.reduceMul, Nat.zero_mul, Nat.zero_add] at hy23_ hz23_); (try rw [show ((0 : Int)).toNat = 0 from rfl] at hy23_); (try rw [show ((0 : Int)).toNat = 0 from rfl] at hz23_); have HP23 := Kd.R_putg HO119.out (0 : Int) true) | ((with_reducible refine gate_store (t := 4) (p := 34) rfl ?_); refine store_event (t := 4) (p := 34) (v := ?vo_w24) (w1 := (w21.setCell ⟨go20, (0 : Int).toNat, none⟩ (.bool true))) ?hg ?ho ?hn ?hr ?_; (case ho => rfl); (case hg => rfl); (case hn => rfl); (case hr => first | (go_simp; done) | (go_simp; rfl)); intro w24 hw; have hg : w21.grownBy w24 (some go20) := (by rw [hw]; exact HP23.2); have hp_ : Kd.R Kd.bool 4 w24 w.heap.size (fun _ => True) (.slice (some ⟨go20, 0, none⟩) y117.length co20) y120 := (by rw [hw, Ny120.out]; exact HP23.1); clear HP23; replace HO119 := Aside0.mk (hp_); replace HB := Aside0.mk ((by rw [hw]; exact below_set (HB.out) GB20.out : Below w.heap.size w w24)); clear hg hw hp_) | ((with_reducible refine gate_dst (N := 35) rfl ?_); (try (refine gate_guard (by rfl) ?_; dsimp only)); refine Kd.R_lit (Kd.int .i64) _ 3 ?hg (N := 35) ?hd (xs := ([0] : List Int)) (inner := [.int .i64 0]) (ok := fun _ => True) (okp := fun _ => True) ?hr ?hp (fun _ hk => hk) trivial (Below.refl _ _) (Nat.le_refl _) (by simp) ?_; (case hd => rfl); (case hg => rfl); (case hr => first | (go_simp; done) | (go_simp; rfl)); (case hp => exact (Reps.one (show Kd.M (Kd.int .i64) _ _ _ 0 [.int .i64 0] from rfl) (Reps.none _ _))); intro v122 w25 ho26 hb hg_ hnew_; clear hg_ hnew_; (first | rw [← Ny121.out] at ho26 | (simp only [Int.reduceToNat] at ho26; rw [← Ny121.out] at ho26)); replace HO119 := rb_ HO119 hb; have HO123 := rl_ w ho26; replace HB := b1_ hb; clear hb ho26))
        go_loopg [6, 7] kj2 (fun kq v6 v7 w' => ∃ (x5_2 : List Bool) (x6_2 : List Int) (x7_2 : Int), v7 = .int .i64 x7_2 ∧ Aside0 (impl_IsTransitive.l0 kq l0 l1 x5_2 x6_2 x7_2 = some r) ∧ Aside0 (kq ≤ kj2) ∧ Aside0 (Kd.R Kd.bool 4 w' w.heap.size (fun _ => True) (.slice (some ⟨go20, 0, none⟩) y117.length co20) x5_2) ∧ Aside0 (Kd.R (Kd.int .i64) 3 w' w.heap.size (fun _ => True) v6 x6_2) ∧ Aside0 (Below w.heap.size w w'))
        case atStart => exact ⟨(y120), (y121), (0), qc_, H', ⟨Nat.le_refl _⟩, ⟨(rr_ HO119)⟩, ⟨(rr_ HO123)⟩, ⟨hB_⟩⟩
        case round =>
          clear H'
          obtain ⟨x5_2, x6_2, x7_2, rfl, HA, HK2, HO_5, HO_6, HB⟩ := hrel
          have hl5_2 := (Kd.R_reads' HO_5.out).1
          rw [hl5_2] at HO_5
          (try simp only [hl5_2])
          (try simp only [hl5_2] at HO_6)
          cases gk with
          | zero => exact absurd HA.out (by simp [impl_IsTransitive.l0])
          | succ k2 =>
            have H := HA.out
            clear HA
            simp only [impl_IsTransitive.l0] at H
            by_cases c27 : x7_2 < (x6_2.length : Int)
            · rw [if_pos c27] at H
              have c27b0 := decide_eq_true c27
              clear c27
              have c28 := cp_ H
              replace H := ca_ H
              have c28b0 := decide_eq_true c28
              clear c28
              have c29 := cp_ H
              replace H := ca_ H
              have c29b0 := decide_eq_true c29
              clear c29
              have c30 := cp_ H
              replace H := ca_ H
              have c30b0 := decide_eq_true c30
              clear c30
              have c31 := cp_ H
              replace H := ca_ H
              have c31b0 := decide_eq_true c31
              clear c31
              obtain ⟨y128, hy128⟩ : ∃ y_ : List Int, y_ = (([rd l0 (rd x6_2 x7_2), rd l1 (rd x6_2 x7_2)] : List Int)) := ⟨_, rfl⟩
              replace H : (impl_IsTransitive.l1 k2 l0 l1 x5_2 x6_2 x7_2 y128 (y128.length : Int) 0) = some r := by first | (rw [hy128]; exact H) | exact H
              have Ny128 := Aside0.mk hy128
              clear hy128
              have H' := Aside0.mk H
              clear H
              obtain ⟨Ao32, co32, eo32⟩ := Kd.R_slice HO_6.out
              subst eo32
              try go_wp2
              replace HO_5 := Aside0.mk (Kd.R_drew HO_5.out)
              replace HO_6 := Aside0.mk (Kd.R_drew HO_6.out)
              replace HB := Aside0.mk (below_drew1 HB.out)
              have p124 : 0 ≤ (x7_2 : Int) := of_decide_eq_true qe_
              have q124 : x7_2 < (x6_2.length : Int) := of_decide_eq_true qe_
              obtain ⟨ad124, e124, hx124_0⟩ := Kd.at_int (Kd.R_reads' HO_6.out).2.2 x7_2 p124 q124
              cases e124
              replace p124 := eq_true p124
              replace q124 := eq_true q124
              have p125 : 0 ≤ ((rd x6_2 x7_2) : Int) := of_decide_eq_true qe_
              have q125 : (rd x6_2 x7_2) < (l0.length : Int) := of_decide_eq_true qe_
              obtain ⟨ad125, e125, hx125_0⟩ := Kd.at_int HR0.out (rd x6_2 x7_2) p125 q125
              have hw125_0 := hx125_0
              cases e125
              replace hx125_0 := (HB.out.cell (World.block_lt_of_cell? w _ hx125_0)).trans hx125_0
              replace p125 := eq_true p125
              replace q125 := eq_true q125
              have p126 : 0 ≤ (x7_2 : Int) := of_decide_eq_true qe_
              have q126 : x7_2 < (x6_2.length : Int) := of_decide_eq_true qe_
              obtain ⟨ad126, e126, hx126_0⟩ := Kd.at_int (Kd.R_reads' HO_6.out).2.2 x7_2 p126 q126
              obtain rfl : ad124 = ad126 := (by injection e126)
              replace p126 := eq_true p126
              replace q126 := eq_true q126
              have p127 : 0 ≤ ((rd x6_2 x7_2) : Int) := of_decide_eq_true qe_
              have q127 : (rd x6_2 x7_2) < (l1.length : Int) := of_decide_eq_true qe_
              obtain ⟨ad127, e127, hx127_0⟩ := Kd.at_int HR1.out (rd x6_2 x7_2) p127 q127
              have hw127_0 := hx127_0
              cases e127
              replace hx127_0 := (HB.out.cell (World.block_lt_of_cell? w _ hx127_0)).trans hx127_0
              replace p127 := eq_true p127
              replace q127 := eq_true q127
              refine start_ (n := 17) (S := fun w' => w'.cell? (ad124.add (x7_2).toNat) = some (.int .i64 (rd x6_2 x7_2)) ∧ w'.cell? (ad125.add ((rd x6_2 x7_2)).toNat) = some (.int .i64 (rd l0 (rd x6_2 x7_2))) ∧ w'.cell? (ad124.add (x7_2).toNat) = some (.int .i64 (rd x6_2 x7_2)) ∧ w'.cell? (ad127.add ((rd x6_2 x7_2)).toNat) = some (.int .i64 (rd l1 (rd x6_2 x7_2)))) (ds := []) (bl_ 17 0) (by kernel_rfl) rfl (by kernel_rfl) ⟨hx124_0, ((HB.out.cell (World.block_lt_of_cell? w _ hw125_0)).trans hw125_0), hx126_0, ((HB.out.cell (World.block_lt_of_cell? w _ hw127_0)).trans hw127_0)⟩ (fun hHeld => ?_); refine with_tabW impl_IsTransitive.tab9 impl_IsTransitive.bits9 (fun HT_ HW_ => ?_)
              generalize wr.drew = w33 at HO_5 HO_6 HB hx124_0 hx125_0 hx126_0 hx127_0 hHeld ⊢
              refine pu_ 0 (some 42) (bl_ 17 1) HT_ ?_
              refine pu_ 1 (some 43) (bl_ 17 3) HT_ ?_
              refine pu_ 2 (some 44) (bl_ 17 7) HT_ ?_
              refine pu_ 3 (some 45) (bl_ 17 15) HT_ ?_
              refine pu_ 7 (some 49) (bl_ 17 143) HT_ ?_
              refine pu_ 8 (some 50) (bl_ 17 399) HT_ ?_
              refine pu_ 9 (some 51) (bl_ 17 911) HT_ ?_
              refine pu_ 10 (some 52) (bl_ 17 1935) HT_ ?_
              refine pu_ 16 (some 58) (bl_ 17 67471) HT_ ?_
              refine ta_ 4 (some 46) (bl_ 17 67487) HT_ HW_ hHeld ?_
              refine pu_ 5 (some 47) (bl_ 17 67519) HT_ ?_
              refine ta_ 6 (some 48) (bl_ 17 67583) HT_ HW_ hHeld ?_
              refine ta_ 11 (some 53) (bl_ 17 69631) HT_ HW_ hHeld ?_
              refine pu_ 12 (some 54) (bl_ 17 73727) HT_ ?_
              refine ta_ 13 (some 55) (bl_ 17 81919) HT_ HW_ hHeld ?_
              refine on_ 14 (some 56) (bl_ 17 98303) HT_ (fun K hK => ?_)
              refine Kd.R_lit_step (Kd.int .i64) _ 3 ?hg (N := 56) ?hd (xs := ([rd l0 (rd x6_2 x7_2), rd l1 (rd x6_2 x7_2)] : List Int)) (inner := [.int .i64 (rd l0 (rd x6_2 x7_2)), .int .i64 (rd l1 (rd x6_2 x7_2))]) (ok := fun _ => True) (okp := fun _ => True) ?hr ?hp (fun _ hk => hk) trivial (Below.refl _ _) (Nat.le_refl _) (by simp) ?_; (case hd => rfl); (case hg => rfl); (case hr => first | (go_simp; done) | (go_simp; rfl)); (case hp => exact (Reps.one (show Kd.M (Kd.int .i64) _ _ _ (rd l0 (rd x6_2 x7_2)) [.int .i64 (rd l0 (rd x6_2 x7_2))] from rfl) (Reps.one (show Kd.M (Kd.int .i64) _ _ _ (rd l1 (rd x6_2 x7_2)) [.int .i64 (rd l1 (rd x6_2 x7_2))] from rfl) (Reps.none _ _))))
              intro v129 w34 ho35 hb hg_ hnew_
              have HS0_ := (hb.cell (World.block_lt_of_cell? _ _ (hHeld.1))).trans (hHeld.1)
              have HS2_ := (hb.cell (World.block_lt_of_cell? _ _ (hHeld.2.2.1))).trans (hHeld.2.2.1)
              clear hg_ hnew_
              (first | rw [← Ny128.out] at ho35 | (simp only [Int.reduceToNat] at ho35; rw [← Ny128.out] at ho35))
              replace HO_5 := rb_ HO_5 hb
              have HO130 := Aside0.mk (Kd.R_lower (Kd.R_new' ho35 (Kd.R_lt (rr_ HO_6))) (below_size hB_))
              replace HO_6 := Aside0.mk (Kd.R_elder' (rr_ HO_6) (Kd.R_base ho35) hb)
              replace HB := b1_ hb
              clear hb ho35
              obtain ⟨Ao36, co36, eo36⟩ := Kd.R_slice HO130.out
              (first | subst eo36 | (injection eo36 with f1_ f2_ f3_; have f4_ := f1_.symm; have f5_ := f3_.symm; clear f1_ f2_ f3_; subst f4_; subst f5_))
              refine hK.out _ _ ⟨HS0_, ((HB.out.cell (World.block_lt_of_cell? w _ hw125_0)).trans hw125_0), HS2_, ((HB.out.cell (World.block_lt_of_cell? w _ hw127_0)).trans hw127_0)⟩ (fun hHeld => ?_)
              clear hK K
              refine no_ (some 56) ?_
              refine pu_ 15 (some 57) (bl_ 17 131071) HT_ ?_
              refine done_ (done_of HT_.out (by kernel_rfl)) ?_
              try go_wp2
              go_loopg [6, 58] k2 (fun kq v6 v58 w' => ∃ (x5_3 : List Bool) (x6_3 : List Int) (x58_3 : Int), v58 = .int .i64 x58_3 ∧ Aside0 (impl_IsTransitive.l1 kq l0 l1 x5_3 x6_3 x7_2 y128 (y128.length : Int) x58_3 = some r) ∧ Aside0 (kq ≤ k2) ∧ Aside0 (Kd.R Kd.bool 4 w' w.heap.size (fun _ => True) (.slice (some ⟨go20, 0, none⟩) x5_2.length co20) x5_3) ∧ Aside0 (Kd.R (Kd.int .i64) 3 w' w.heap.size (fun k_ => some k_ ≠ ((.slice Ao36 y128.length co36) : Value).ownBlock) v6 x6_3) ∧ Aside0 (Kd.R (Kd.int .i64) 3 w' w.heap.size (fun k_ => some k_ ≠ (v6 : Value).ownBlock) (.slice Ao36 y128.length co36) y128) ∧ Aside0 (Below w.heap.size w w'))
              case atStart => exact ⟨(x5_2), (x6_2), (0), qc_, H', ⟨Nat.le_refl _⟩, ⟨by (try simp only [hl5_2]); (with_reducible repeat (first | apply Kd.R_alloc | apply Kd.R_drewN | apply Kd.R_drew)); exact HO_5.out⟩, ⟨by (try simp only [hl5_2]); (with_reducible repeat (first | apply Kd.R_alloc | apply Kd.R_drewN | apply Kd.R_drew)); exact Kd.R_mono HO_6.out (fun _ hk => hk.2)⟩, ⟨by (try simp only [hl5_2]); (with_reducible repeat (first | apply Kd.R_alloc | apply Kd.R_drewN | apply Kd.R_drew)); exact Kd.R_mono HO130.out (fun _ hk => hk.2)⟩, ⟨hB_⟩⟩
              case round =>
                clear H'
                obtain ⟨x5_3, x6_3, x58_3, rfl, HA, HK3, HO_5, HO_6, HO_56, HB⟩ := hrel
                have hl5_3 := (Kd.R_reads' HO_5.out).1
                rw [hl5_3] at HO_5
                (try simp only [hl5_3])
                (try simp only [hl5_3] at HO_6)
                (try simp only [hl5_3] at HO_56)
                cases gk with
                | zero => exact absurd HA.out (by simp [impl_IsTransitive.l1])
                | succ k3 =>
                  have H := HA.out
                  clear HA
                  simp only [impl_IsTransitive.l1] at H
                  by_cases c37 : x58_3 < (y128.length : Int)
                  · rw [if_pos c37] at H
                    have c37b0 := decide_eq_true c37
                    clear c37
                    have c38 := cp_ H
                    replace H := ca_ H
                    have c38b0 := decide_eq_true c38
                    clear c38
                    have c39 := cp_ H
                    replace H := ca_ H
                    have c39b0 := decide_eq_true c39
                    clear c39
                    have c40 := cp_ H
                    replace H := ca_ H
                    have c40b0 := decide_eq_true c40
                    clear c40
                    have c41 := cp_ H
                    replace H := ca_ H
                    have c41b0 := decide_eq_true c41
                    clear c41
                    obtain ⟨bq42, hbq42⟩ : ∃ b_ : Bool, b_ = (rdOf false x5_3 (rd y128 x58_3)) := ⟨_, rfl⟩
                    replace H : (if (bq42 = true) then (impl_IsTransitive.l1 k3 l0 l1 x5_3 x6_3 x7_2 y128 (y128.length : Int) (wrap64 (x58_3 + 1))) else (if x6_3.length < 17592186044416 then (impl_IsTransitive.l1 k3 l0 l1 (x5_3.set ((rd y128 x58_3) : Int).toNat true) (x6_3 ++ [rd y128 x58_3]) x7_2 y128 (y128.length : Int) (wrap64 (x58_3 + 1))) else (none))) = some r := by rw [← hbq42] at H; exact H
                    have Nbq42 := Aside0.mk hbq42
                    clear hbq42
                    by_cases c43 : (bq42 = true)
                    · subst c43
                      rw [if_pos rfl] at H
                      have H' := Aside0.mk H
                      clear H
                      have p131 : 0 ≤ (x58_3 : Int) := of_decide_eq_true qe_
                      have q131 : x58_3 < (y128.length : Int) := of_decide_eq_true qe_
                      obtain ⟨ad131, e131, hx131_0⟩ := Kd.at_int (Kd.R_reads' HO_56.out).2.2 x58_3 p131 q131
                      cases e131
                      replace p131 := eq_true p131
                      replace q131 := eq_true q131
                      have p132 : 0 ≤ ((rd y128 x58_3) : Int) := of_decide_eq_true qe_
                      have q132 : (rd y128 x58_3) < (x5_3.length : Int) := of_decide_eq_true qe_
                      obtain ⟨ad132, e132, hx132_0⟩ := Kd.at_bool (Kd.R_reads' HO_5.out).2.2 (rd y128 x58_3) p132 q132
                      (try rw [← Nbq42.out] at hx132_0)
                      obtain rfl : (⟨go20, 0, none⟩ : Addr) = ad132 := (by injection e132)
                      (first | simp only [add_plain] at hx132_0 | simp only [add_at] at hx132_0 | simp only [Addr.add, Nat.zero_add] at hx132_0 | skip)
                      replace p132 := eq_true p132
                      replace q132 := eq_true q132
                      go_wp2
                      (try simp only [← hl5_3])
                      go_roundg k3
                      case measure => have := HJ2.out; have := HK2.out; have := HK3.out; omega
                      case rel => exact ⟨(x5_3), (x6_3), (wrap64 (x58_3 + 1)), qc_, H', ⟨by have := HJ2.out; have := HK2.out; have := HK3.out; omega⟩, ⟨by (try simp only [hl5_2]); (try simp only [hl5_3]); (with_reducible repeat (first | apply Kd.R_alloc | apply Kd.R_drewN | apply Kd.R_drew)); exact HO_5.out⟩, ⟨by (try simp only [hl5_2]); (try simp only [hl5_3]); (with_reducible repeat (first | apply Kd.R_alloc | apply Kd.R_drewN | apply Kd.R_drew)); exact HO_6.out⟩, ⟨by (try simp only [hl5_2]); (try simp only [hl5_3]); (with_reducible repeat (first | apply Kd.R_alloc | apply Kd.R_drewN | apply Kd.R_drew)); exact HO_56.out⟩, ⟨hB_⟩⟩
                    · replace c43 := Bool.eq_false_iff.mpr c43
                      subst c43
                      have H1 : (if x6_3.length < 17592186044416 then (impl_IsTransitive.l1 k3 l0 l1 (x5_3.set ((rd y128 x58_3) : Int).toNat true) (x6_3 ++ [rd y128 x58_3]) x7_2 y128 (y128.length : Int) (wrap64 (x58_3 + 1))) else (none)) = some r := by rw [if_neg (show ¬ (false = true) by decide)] at H; exact H
                      clear H
                      have H := H1
                      clear H1
                      obtain ⟨y133, hy133⟩ : ∃ y_ : List Bool, y_ = (x5_3.set ((rd y128 x58_3) : Int).toNat true) := ⟨_, rfl⟩
                      replace H : (if x6_3.length < 17592186044416 then (impl_IsTransitive.l1 k3 l0 l1 y133 (x6_3 ++ [rd y128 x58_3]) x7_2 y128 (y128.length : Int) (wrap64 (x58_3 + 1))) else (none)) = some r := by first | (rw [hy133]; exact H) | exact H
                      have Ny133 := Aside0.mk hy133
                      clear hy133
                      have c45 := cp_ H
                      replace H := ca_ H
                      have LMc45 := Aside0.mk c45
                      clear c45
                      obtain ⟨y134, hy134⟩ : ∃ y_ : List Int, y_ = (x6_3 ++ [rd y128 x58_3]) := ⟨_, rfl⟩
                      replace H : (impl_IsTransitive.l1 k3 l0 l1 y133 y134 x7_2 y128 (y128.length : Int) (wrap64 (x58_3 + 1))) = some r := by first | (rw [hy134]; exact H) | exact H
                      have Ny134 := Aside0.mk hy134
                      clear hy134
                      have H' := Aside0.mk H
                      clear H
                      have p131 : 0 ≤ (x58_3 : Int) := of_decide_eq_true qe_
                      have q131 : x58_3 < (y128.length : Int) := of_decide_eq_true qe_
                      obtain ⟨ad131, e131, hx131_0⟩ := Kd.at_int (Kd.R_reads' HO_56.out).2.2 x58_3 p131 q131
                      cases e131
                      replace p131 := eq_true p131
                      replace q131 := eq_true q131
                      have p132 : 0 ≤ ((rd y128 x58_3) : Int) := of_decide_eq_true qe_
                      have q132 : (rd y128 x58_3) < (x5_3.length : Int) := of_decide_eq_true qe_
                      obtain ⟨ad132, e132, hx132_0⟩ := Kd.at_bool (Kd.R_reads' HO_5.out).2.2 (rd y128 x58_3) p132 q132
                      (try rw [← Nbq42.out] at hx132_0)
                      obtain rfl : (⟨go20, 0, none⟩ : Addr) = ad132 := (by injection e132)
                      (first | simp only [add_plain] at hx132_0 | simp only [add_at] at hx132_0 | simp only [Addr.add, Nat.zero_add] at hx132_0 | skip)
                      replace p132 := eq_true p132
                      replace q132 := eq_true q132
                      have p44 : 0 ≤ ((rd y128 x58_3) : Int) := of_decide_eq_true qe_
                      have q44 : ((rd y128 x58_3) : Int) < ((x5_3.length : Int) : Int) := of_decide_eq_true qe_
                      obtain ⟨hx44_0, hf44_0⟩ := Kd.R_celln false HO_5.out ((rd y128 x58_3) : Int) p44 q44
                      replace p44 := eq_true p44
                      replace q44 := eq_true q44
                      have HP46 := Kd.R_putg HO_5.out ((rd y128 x58_3) : Int) true
                      go_wp2_with (first | ((with_reducible refine gate_store (t := 4) (p := 69) rfl ?_); refine store_event (t := 4) (p := 69) (v := ?vo_w47) (w1 := (wr.setCell ⟨go20, ((rd y128 x58_3) : Int).toNat, none⟩ (.bool true))) ?hg ?ho ?hn ?hr ?_; (case ho => rfl); (case hg => rfl); (case hn => rfl); (case hr => first | (go_simp; done) | (go_simp; rfl)); intro w47 hw; have hg : wr.grownBy w47 (some go20) := (by rw [hw]; exact HP46.2); have hp_ : Kd.R Kd.bool 4 w47 w.heap.size (fun _ => True) (.slice (some ⟨go20, 0, none⟩) x5_3.length co20) y133 := (by rw [hw, Ny133.out]; exact HP46.1); clear HP46; replace HO_6 := Aside0.mk (Kd.R_over' (v := (.slice (some ⟨go20, 0, none⟩) x5_3.length co20)) (rr_ HO_6) (Kd.R_typed HO_5.out) (by decide) hg); replace HO_56 := Aside0.mk (Kd.R_over' (v := (.slice (some ⟨go20, 0, none⟩) x5_3.length co20)) (rr_ HO_56) (Kd.R_typed HO_5.out) (by decide) hg); replace HO_5 := Aside0.mk (hp_); replace HB := Aside0.mk ((by rw [hw]; exact below_set (HB.out) GB20.out : Below w.heap.size w w47)); clear hg hw hp_) | ((with_reducible refine gate_builtin (b := .append) (xs := #[.tmp 70, .tmp 72]) rfl ?_); (try (refine gate_guard (by rfl) ?_; dsimp only)); at_builtin; refine Kd.R_append (Kd.int .i64) (w0 := w) w.heap.size rfl (.tmp 70) (.tmp 72) 23 3 (.int .i64 0) 8 rfl Try.underlying23 info3 rfl (by decide) (by omega) u6 x6_3 (rd y128 x58_3) [.int .i64 (rd y128 x58_3)] (fun k_ => some k_ ≠ (.slice (some ad131) y128.length co36 : Value).ownBlock) (fun _ => False) rfl rfl ?aP (fun _ hk => hk.elim) ?aF ?aO ?aB ?aS ?aL ?_; (case aP => exact rfl); (case aB => exact hB_); (case aF => exact (fun k_ hk => Kd.fresh' (Kd.R_lt (rr_ HO_56)) k_ hk)); (case aO => exact (rr_ HO_6)); (case aS => exact (below_size hB_)); (case aL => have := LMc45.out; omega); intro v135 w48 ho hb hg hat; rw [← Ny134.out] at ho; replace HO_5 := Aside0.mk (Kd.R_over' (rr_ HO_5) (Kd.R_typed (rr_ HO_6)) (by decide) hg); replace HO_56 := Aside0.mk (Kd.R_after (ok := (fun _ => True)) (rw_ (Kd.R_mono HO_56.out (fun _ hk => ⟨trivial, hk⟩))) hg hat); replace HB := Aside0.mk hb; have HO136 := Aside0.mk ho; clear HO_6; clear ho hb hg hat))
                      (try simp only [← hl5_3])
                      go_roundg k3
                      case measure => have := HJ2.out; have := HK2.out; have := HK3.out; omega
                      case rel => exact ⟨(y133), (y134), (wrap64 (x58_3 + 1)), qc_, H', ⟨by have := HJ2.out; have := HK2.out; have := HK3.out; omega⟩, ⟨by (try simp only [hl5_2]); (try simp only [hl5_3]); (with_reducible repeat (first | apply Kd.R_alloc | apply Kd.R_drewN | apply Kd.R_drew)); exact HO_5.out⟩, ⟨by (try simp only [hl5_2]); (try simp only [hl5_3]); (with_reducible repeat (first | apply Kd.R_alloc | apply Kd.R_drewN | apply Kd.R_drew)); exact HO136.out⟩, ⟨by (try simp only [hl5_2]); (try simp only [hl5_3]); (with_reducible repeat (first | apply Kd.R_alloc | apply Kd.R_drewN | apply Kd.R_drew)); exact Kd.R_mono HO_56.out (fun _ hk => hk.2)⟩, ⟨hB_⟩⟩
                  · rw [if_neg c37] at H
                    have c37b0 := decide_eq_false c37
                    clear c37
                    have H' := Aside0.mk H
                    clear H
                    go_wp2
                    (try simp only [← hl5_2, ← hl5_3])
                    go_roundg k3
                    case measure => have := HJ2.out; have := HK2.out; have := HK3.out; omega
                    case rel => exact ⟨(x5_3), (x6_3), (wrap64 (x7_2 + 1)), qc_, H', ⟨by have := HJ2.out; have := HK2.out; have := HK3.out; omega⟩, ⟨by (try simp only [hl5_2]); (try simp only [hl5_3]); (with_reducible repeat (first | apply Kd.R_alloc | apply Kd.R_drewN | apply Kd.R_drew)); exact HO_5.out⟩, ⟨by (try simp only [hl5_2]); (try simp only [hl5_3]); (with_reducible repeat (first | apply Kd.R_alloc | apply Kd.R_drewN | apply Kd.R_drew)); exact Kd.R_mono HO_6.out (fun _ hk => trivial)⟩, ⟨hB_⟩⟩
            · rw [if_neg c27] at H
              have c27b0 := decide_eq_false c27
              clear c27
              obtain rfl := Option.some.inj H
              obtain ⟨Ao49, co49, eo49⟩ := Kd.R_slice HO_6.out
              subst eo49
              go_wp2
              go_ret
              exact ⟨qb_, hB_⟩
end Go.Proofs.Ytoijcallajegfaa.A
end
section
namespace Go.Proofs.Ytoijcallajegfaa.A
open Go.RowKit Go.Proofs.YtoijcallajegfaaW.PrintWords Go.Proofs.YtoijcallajegfaaW.PrintLast Go.Proofs.YtoijcallajegfaaW.PrintMore
attribute [local go_sem] max2_int min2_int max_two min_two max_three min_three max_four min_four
set_option linter.unusedVariables false
set_option linter.unusedSimpArgs false
def impl_SurfaceOk.f (k : Nat) (l0_0 : List Int) (l0_1 : List Int) : Option (Bool) := (impl_IsTransitive.f k l0_0 l0_1).bind fun t138 => (some t138)
theorem impl_SurfaceOk.mono : ∀ a0 a1 k, LeO (impl_SurfaceOk.f k a0 a1) (impl_SurfaceOk.f (k + 1) a0 a1) := by
  intro a0 a1 k
  unfold impl_SurfaceOk.f
  repeat' first|exact impl_IsTransitive.mono _ _ _|exact lo_|refine LeO.ite ?_ ?_|refine LeO.bind ?_ (fun _ => ?_)
set_option maxHeartbeats 8000000 in
set_option maxRecDepth 100000 in
theorem impl_SurfaceOk.calls (k : Nat) (A0_0 : Option Addr) (c0_0 : Nat) (l0_0 : List Int) (A0_1 : Option Addr) (c0_1 : Nat) (l0_1 : List Int) (r : Bool) (w : World) (hr0_0 : Kd.C (Kd.int .i64) w A0_0 l0_0.length l0_0) (hc0_0 : l0_0.length ≤ c0_0) (hr0_1 : Kd.C (Kd.int .i64) w A0_1 l0_1.length l0_1) (hc0_1 : l0_1.length ≤ c0_1) (h : impl_SurfaceOk.f k l0_0 l0_1 = some r) :
    Calls Try.prog 19 #[.agg #[.slice A0_0 l0_0.length c0_0, .slice A0_1 l0_1.length c0_1]] w fun e w' => e = .returned (.bool r) ∧ Below w.heap.size w w' := by
  have hu33 := Try.underlying33
  have HR0_0 := Aside0.mk hr0_0
  have HC0_0 := Aside0.mk hc0_0
  clear hr0_0 hc0_0
  have HR0_1 := Aside0.mk hr0_1
  have HC0_1 := Aside0.mk hc0_1
  clear hr0_1 hc0_1
  have HB := Aside0.mk (Below.refl w.heap.size w)
  have H := h
  unfold impl_SurfaceOk.f at H
  clear h
  obtain ⟨t138, A2, H⟩ := bi_ H
  obtain rfl := Option.some.inj H
  go_enter Try.func19, Try.ntmps19
  go_wp2_with (first | ((with_reducible refine gate_dst (N := 1) rfl ?_); refine bx_ 1 #[.slice A0_0 l0_0.length c0_0, .slice A0_1 l0_1.length c0_1] 33 ?_; intro gb137 hg w3 hbox hb; have BK137 := Aside0.mk hbox; have GW137 := gw_ w hg; have GE137 := GW137; replace HB := b1_ hb; clear hb hbox hg; obtain ⟨hcz4_0, hcz4_1, hfz4_0, hfz4_1⟩ := c2_ BK137) | ((with_reducible refine gate_callee (f := 61) rfl ?_); refine gL_ (some 7) Try.func61 #[.slice A0_0 l0_0.length c0_0, .slice A0_1 l0_1.length c0_1] rfl qa_ ?_; (with_reducible refine (impl_IsTransitive.calls k _ _ l0_0 _ _ l0_1 t138 _ (cb_ HR0_0) HC0_0.out (cb_ HR0_1) HC0_1.out A2.out).mono ?_); rintro e w5 ⟨rfl, hb⟩; refine ⟨_, rfl, ?_⟩; replace BK137 := bb_ BK137 hb; replace HB := b1_ hb; clear hb))
  go_ret
  exact ⟨qb_, hB_⟩
end Go.Proofs.Ytoijcallajegfaa.A
end
section
namespace Go.Proofs.Ytoijcallajegfaa.A
open Go.RowKit Go.Proofs.YtoijcallajegfaaW.PrintWords Go.Proofs.YtoijcallajegfaaW.PrintLast Go.Proofs.YtoijcallajegfaaW.PrintMore
attribute [local go_sem] max2_int min2_int max_two min_two max_three min_three max_four min_four
set_option linter.unusedVariables false
set_option linter.unusedSimpArgs false
def impl_CountSquares.f (k : Nat) (l0_0 : List Int) (l0_1 : List Int) : Option (Int) := (impl_SurfaceOk.f k l0_0 l0_1).bind fun t140 => (if t140 = true then (some (l0_0.length : Int)) else (some 0))
theorem impl_CountSquares.mono : ∀ a0 a1 k, LeO (impl_CountSquares.f k a0 a1) (impl_CountSquares.f (k + 1) a0 a1) := by
  intro a0 a1 k
  unfold impl_CountSquares.f
  repeat' first|exact impl_SurfaceOk.mono _ _ _|exact lo_|refine LeO.ite ?_ ?_|refine LeO.bind ?_ (fun _ => ?_)
set_option maxHeartbeats 8000000 in
set_option maxRecDepth 100000 in
theorem impl_CountSquares.calls (k : Nat) (A0_0 : Option Addr) (c0_0 : Nat) (l0_0 : List Int) (A0_1 : Option Addr) (c0_1 : Nat) (l0_1 : List Int) (r : Int) (w : World) (hr0_0 : Kd.C (Kd.int .i64) w A0_0 l0_0.length l0_0) (hc0_0 : l0_0.length ≤ c0_0) (hr0_1 : Kd.C (Kd.int .i64) w A0_1 l0_1.length l0_1) (hc0_1 : l0_1.length ≤ c0_1) (h : impl_CountSquares.f k l0_0 l0_1 = some r) :
    Calls Try.prog 23 #[.agg #[.slice A0_0 l0_0.length c0_0, .slice A0_1 l0_1.length c0_1]] w fun e w' => e = .returned (.int .i64 r) ∧ Below w.heap.size w w' := by
  have hu33 := Try.underlying33
  have HR0_0 := Aside0.mk hr0_0
  have HC0_0 := Aside0.mk hc0_0
  clear hr0_0 hc0_0
  have HR0_1 := Aside0.mk hr0_1
  have HC0_1 := Aside0.mk hc0_1
  clear hr0_1 hc0_1
  have HB := Aside0.mk (Below.refl w.heap.size w)
  have H := h
  unfold impl_CountSquares.f at H
  clear h
  obtain ⟨t140, A2, H⟩ := bi_ H
  by_cases c3 : t140 = true
  · subst c3
    rw [if_pos rfl] at H
    obtain rfl := Option.some.inj H
    go_enter Try.func23, Try.ntmps23
    go_wp2_with (first | ((with_reducible refine gate_dst (N := 1) rfl ?_); refine bx_ 1 #[.slice A0_0 l0_0.length c0_0, .slice A0_1 l0_1.length c0_1] 33 ?_; intro gb139 hg w4 hbox hb; have BK139 := Aside0.mk hbox; have GW139 := gw_ w hg; have GE139 := GW139; replace HB := b1_ hb; clear hb hbox hg; obtain ⟨hcz5_0, hcz5_1, hfz5_0, hfz5_1⟩ := c2_ BK139) | ((with_reducible refine gate_callee (f := 19) rfl ?_); refine gL_ (some 4) Try.func19 #[.agg #[.slice A0_0 l0_0.length c0_0, .slice A0_1 l0_1.length c0_1]] rfl qa_ ?_; (with_reducible refine (impl_SurfaceOk.calls k _ _ l0_0 _ _ l0_1 true _ (cb_ HR0_0) HC0_0.out (cb_ HR0_1) HC0_1.out A2.out).mono ?_); rintro e w6 ⟨rfl, hb⟩; refine ⟨_, rfl, ?_⟩; replace BK139 := bb_ BK139 hb; replace HB := b1_ hb; clear hb; obtain ⟨hcz7_0, hcz7_1, hfz7_0, hfz7_1⟩ := c2_ BK139))
    go_ret
    exact ⟨qb_, hB_⟩
  · replace c3 := Bool.eq_false_iff.mpr c3
    subst c3
    have H1 : (some 0) = some r := by rw [if_neg (show ¬ (false = true) by decide)] at H; exact H
    clear H
    have H := H1
    clear H1
    obtain rfl := Option.some.inj H
    go_enter Try.func23, Try.ntmps23
    go_wp2_with (first | ((with_reducible refine gate_dst (N := 1) rfl ?_); refine bx_ 1 #[.slice A0_0 l0_0.length c0_0, .slice A0_1 l0_1.length c0_1] 33 ?_; intro gb139 hg w8 hbox hb; have BK139 := Aside0.mk hbox; have GW139 := gw_ w hg; have GE139 := GW139; replace HB := b1_ hb; clear hb hbox hg; obtain ⟨hcz9_0, hcz9_1, hfz9_0, hfz9_1⟩ := c2_ BK139) | ((with_reducible refine gate_callee (f := 19) rfl ?_); refine gL_ (some 4) Try.func19 #[.agg #[.slice A0_0 l0_0.length c0_0, .slice A0_1 l0_1.length c0_1]] rfl qa_ ?_; (with_reducible refine (impl_SurfaceOk.calls k _ _ l0_0 _ _ l0_1 false _ (cb_ HR0_0) HC0_0.out (cb_ HR0_1) HC0_1.out A2.out).mono ?_); rintro e w10 ⟨rfl, hb⟩; refine ⟨_, rfl, ?_⟩; replace BK139 := bb_ BK139 hb; replace HB := b1_ hb; clear hb))
    go_ret
    exact ⟨qb_, hB_⟩
end Go.Proofs.Ytoijcallajegfaa.A
end
section
namespace Go.Proofs.Ytoijcallajegfaa.A
open Go.RowKit Go.Proofs.YtoijcallajegfaaW.PrintWords Go.Proofs.YtoijcallajegfaaW.PrintLast Go.Proofs.YtoijcallajegfaaW.PrintMore
attribute [local go_sem] max2_int min2_int max_two min_two max_three min_three max_four min_four
set_option linter.unusedVariables false
set_option linter.unusedSimpArgs false
mutual
def impl_RenamePerm.j0 : Nat → List Int → List Int → Bool → Option (List Int)
  | 0, _, _, _ => none
  | k + 1, x0, x1, x22 => if x22 = true then (some ([] : List Int)) else (if 0 ≤ (x0.length : Int) then (if ((x0.length : Int) : Int).toNat ≤ 35184372088832 then (impl_RenamePerm.l0 k x1 (List.replicate ((x0.length : Int) : Int).toNat 0) x0 (x0.length : Int) 0) else (none)) else (none))
def impl_RenamePerm.l0 : Nat → List Int → List Int → List Int → Int → Int → Option (List Int)
  | 0, _, _, _, _, _ => none
  | k + 1, x1, x5, x26, x27, x28 => if x28 < x27 then (if 0 ≤ x28 then (if x28 < (x26.length : Int) then (if x28 < (x1.length : Int) then (if 0 ≤ (rd x26 x28) then (if (rd x26 x28) < (x1.length : Int) then (if 0 ≤ (rd x1 x28) then (if (rd x1 x28) < (x5.length : Int) then (impl_RenamePerm.l0 k x1 (x5.set ((rd x1 x28) : Int).toNat (rd x1 (rd x26 x28))) x26 x27 (wrap64 (x28 + 1))) else (none)) else (none)) else (none)) else (none)) else (none)) else (none)) else (none)) else (some x5)
end
def impl_RenamePerm.f (k : Nat) (l0 : List Int) (l1 : List Int) : Option (List Int) := (impl_PermOk.f k l0).bind fun t141 => (if t141 = true then ((impl_PermOk.f k l1).bind fun t142 => (if t142 = true then (impl_RenamePerm.j0 k l0 l1 ((l0.length : Int) != (l1.length : Int))) else (impl_RenamePerm.j0 k l0 l1 true))) else (impl_RenamePerm.j0 k l0 l1 true))
theorem impl_RenamePerm.mono_l : ∀ k, (∀ y0 y1 y2, LeO (impl_RenamePerm.j0 k y0 y1 y2) (impl_RenamePerm.j0 (k + 1) y0 y1 y2)) ∧ (∀ y0 y1 y2 y3 y4, LeO (impl_RenamePerm.l0 k y0 y1 y2 y3 y4) (impl_RenamePerm.l0 (k + 1) y0 y1 y2 y3 y4))
  | 0 => ⟨fun _ _ _ r h => by simp [impl_RenamePerm.j0] at h, fun _ _ _ _ _ r h => by simp [impl_RenamePerm.l0] at h⟩
  | k + 1 => by
    obtain ⟨ih0, ih1⟩ := impl_RenamePerm.mono_l k
    refine ⟨?_, ?_⟩
    · intro y0 y1 y2
      unfold impl_RenamePerm.j0
      repeat' first|exact ih0 _ _ _|exact ih1 _ _ _ _ _|exact impl_PermOk.mono _ _|exact lo_|refine LeO.ite ?_ ?_|refine LeO.bind ?_ (fun _ => ?_)
    · intro y0 y1 y2 y3 y4
      unfold impl_RenamePerm.l0
      repeat' first|exact ih0 _ _ _|exact ih1 _ _ _ _ _|exact impl_PermOk.mono _ _|exact lo_|refine LeO.ite ?_ ?_|refine LeO.bind ?_ (fun _ => ?_)
theorem impl_RenamePerm.mono : ∀ a0 a1 k, LeO (impl_RenamePerm.f k a0 a1) (impl_RenamePerm.f (k + 1) a0 a1) := by
  intro a0 a1 k
  obtain ⟨ih0, ih1⟩ := impl_RenamePerm.mono_l k
  unfold impl_RenamePerm.f
  repeat' first|exact ih0 _ _ _|exact ih1 _ _ _ _ _|exact impl_PermOk.mono _ _|exact lo_|refine LeO.ite ?_ ?_|refine LeO.bind ?_ (fun _ => ?_)
def impl_RenamePerm.T7 : Bool × List (List Nat × List Nat) := (true, [([], []), ([], []), ([], []), ([1, 2], [1, 2]), ([3], [3]), ([], []), ([], []), ([5, 6], [5, 6]), ([7], [7]), ([0, 4, 0, 1, 2, 3, 4, 5, 6, 7, 8], [0, 4]), ([9, 8, 0, 1, 2, 3, 4, 5, 6, 7, 8], [8, 9])])
def impl_RenamePerm.B7 : List Nat := [0, 0, 0, 6, 14, 0, 0, 96, 224, 511, 1023]
theorem impl_RenamePerm.tab7 : rtab .any (opsOf Try.f150 7) = impl_RenamePerm.T7 := by kernel_rfl
theorem impl_RenamePerm.bits7 : waitsOk impl_RenamePerm.T7.2 impl_RenamePerm.B7 = true := by kernel_rfl
set_option maxHeartbeats 8000000 in
set_option maxRecDepth 100000 in
theorem impl_RenamePerm.calls (k : Nat) (A0 : Option Addr) (c0 : Nat) (l0 : List Int) (A1 : Option Addr) (c1 : Nat) (l1 : List Int) (r : List Int) (w : World) (hr0 : Kd.C (Kd.int .i64) w A0 l0.length l0) (hc0 : l0.length ≤ c0) (hr1 : Kd.C (Kd.int .i64) w A1 l1.length l1) (hc1 : l1.length ≤ c1) (h : impl_RenamePerm.f k l0 l1 = some r) :
    Calls Try.prog 150 #[.slice A0 l0.length c0, .slice A1 l1.length c1] w fun e w' => ∃ v0_ : Value, e = .returned (v0_) ∧ Kd.R (Kd.int .i64) 3 w' w.heap.size (fun _ => True) v0_ r ∧ Below w.heap.size w w' := by
  have HR0 := Aside0.mk hr0
  have HC0 := Aside0.mk hc0
  clear hr0 hc0
  have HR1 := Aside0.mk hr1
  have HC1 := Aside0.mk hc1
  clear hr1 hc1
  have HB := Aside0.mk (Below.refl w.heap.size w)
  have H := h
  unfold impl_RenamePerm.f at H
  clear h
  have HC3 := Aside0.mk H
  clear H
  go_enter Try.func150, Try.ntmps150
  go_upto_region 1 with (fail)
  go_cut [22] (fun v22 wc => ∃ (kq : Nat) (x22_2 : Bool), v22 = .bool x22_2 ∧ Aside0 (impl_RenamePerm.j0 kq l0 l1 x22_2 = some r) ∧ Aside0 (kq ≤ k) ∧ Aside0 (Below w.heap.size w wc))
  case first =>
    have H := HC3.out
    clear HC3
    obtain ⟨t141, A4, H⟩ := bi_ H
    by_cases c5 : t141 = true
    · subst c5
      rw [if_pos rfl] at H
      obtain ⟨t142, A6, H⟩ := bi_ H
      by_cases c7 : t142 = true
      · subst c7
        rw [if_pos rfl] at H
        have H' := Aside0.mk H
        clear H
        go_wp2_with (first | ((with_reducible refine gate_callee (f := 109) rfl ?_); refine gL_ (some 9) Try.func109 #[.slice A0 l0.length c0] rfl qa_ ?_; (with_reducible refine (impl_PermOk.calls k _ _ l0 true _ (cb_ HR0) HC0.out A4.out).mono ?_); rintro e w8 ⟨rfl, hb⟩; refine ⟨_, rfl, ?_⟩; replace HB := b1_ hb; clear hb) | (go_at_call 109; (with_reducible refine (impl_PermOk.calls k _ _ l1 true _ (cb_ HR1) HC1.out A6.out).mono ?_); rintro e w9 ⟨rfl, hb⟩; replace HB := b1_ hb; clear hb))
        go_meet
        case rel => exact ⟨_, (((l0.length : Int) != (l1.length : Int))), qc_, H', ⟨qd_⟩, ⟨hB_⟩⟩
      · replace c7 := Bool.eq_false_iff.mpr c7
        subst c7
        have H1 : (impl_RenamePerm.j0 k l0 l1 true) = some r := by rw [if_neg (show ¬ (false = true) by decide)] at H; exact H
        clear H
        have H := H1
        clear H1
        have H' := Aside0.mk H
        clear H
        go_wp2_with (first | ((with_reducible refine gate_callee (f := 109) rfl ?_); refine gL_ (some 9) Try.func109 #[.slice A0 l0.length c0] rfl qa_ ?_; (with_reducible refine (impl_PermOk.calls k _ _ l0 true _ (cb_ HR0) HC0.out A4.out).mono ?_); rintro e w10 ⟨rfl, hb⟩; refine ⟨_, rfl, ?_⟩; replace HB := b1_ hb; clear hb) | (go_at_call 109; (with_reducible refine (impl_PermOk.calls k _ _ l1 false _ (cb_ HR1) HC1.out A6.out).mono ?_); rintro e w11 ⟨rfl, hb⟩; replace HB := b1_ hb; clear hb))
        go_meet
        case rel => exact ⟨_, (true), qc_, H', ⟨qd_⟩, ⟨hB_⟩⟩
    · replace c5 := Bool.eq_false_iff.mpr c5
      subst c5
      have H1 : (impl_RenamePerm.j0 k l0 l1 true) = some r := by rw [if_neg (show ¬ (false = true) by decide)] at H; exact H
      clear H
      have H := H1
      clear H1
      have H' := Aside0.mk H
      clear H
      go_wp2_with (first | ((with_reducible refine gate_callee (f := 109) rfl ?_); refine gL_ (some 9) Try.func109 #[.slice A0 l0.length c0] rfl qa_ ?_; (with_reducible refine (impl_PermOk.calls k _ _ l0 false _ (cb_ HR0) HC0.out A4.out).mono ?_); rintro e w12 ⟨rfl, hb⟩; refine ⟨_, rfl, ?_⟩; replace HB := b1_ hb; clear hb))
      go_meet
      case rel => exact ⟨_, (true), qc_, H', ⟨qd_⟩, ⟨hB_⟩⟩
  case rest =>
    clear HC3
    obtain ⟨kq, x22_2, rfl, HA, HJ2, HB⟩ := hcut
    cases kq with
    | zero => exact absurd HA.out (by simp [impl_RenamePerm.j0])
    | succ kj2 =>
      have H := HA.out
      clear HA
      simp only [impl_RenamePerm.j0] at H
      by_cases c13 : x22_2 = true
      · subst c13
        rw [if_pos rfl] at H
        obtain rfl := Option.some.inj H
        go_wp2
        go_ret
        exact ⟨_, qb_, by first | exact Kd.R_nil _ _ _ _ _ | exact Kd.N_nil _ _ _ _ _ | exact Kd.V_nil _ _ _ _ _ | exact Kd.Q_nil _ _ _ _ _ | exact Kd.S_nil _ _ _ _ _, hB_⟩
      · replace c13 := Bool.eq_false_iff.mpr c13
        subst c13
        have H1 : (if 0 ≤ (l0.length : Int) then (if ((l0.length : Int) : Int).toNat ≤ 35184372088832 then (impl_RenamePerm.l0 kj2 l1 (List.replicate ((l0.length : Int) : Int).toNat 0) l0 (l0.length : Int) 0) else (none)) else (none)) = some r := by rw [if_neg (show ¬ (false = true) by decide)] at H; exact H
        clear H
        have H := H1
        clear H1
        have c14 := cp_ H
        replace H := ca_ H
        have c14b0 := eq_true c14
        have c14b1 := decide_eq_true c14
        clear c14
        have c15 := cp_ H
        replace H := ca_ H
        have c15b0 := eq_true c15
        have c15b1 := decide_eq_true c15
        clear c15
        obtain ⟨y143, hy143⟩ : ∃ y_ : List Int, y_ = (List.replicate ((l0.length : Int) : Int).toNat 0) := ⟨_, rfl⟩
        replace H : (impl_RenamePerm.l0 kj2 l1 y143 l0 (l0.length : Int) 0) = some r := by first | (rw [hy143]; exact H) | exact H
        have Ny143 := Aside0.mk hy143
        clear hy143
        have H' := Aside0.mk H
        clear H
        go_wp2_with (first | ((with_reducible refine gate_dst (N := 25) rfl ?_); (try (refine gate_guard (by rfl) ?_; dsimp only)); refine Kd.R_make (Kd.int .i64) _ 3 rfl (N := 25) rfl 23 _ _ rfl (l0.length : Int) rfl rfl Try.underlying23 (.int .i64 0) 8 info3 rfl (by decide) (by omega) 0 (ok := fun _ => True) (okp := fun _ => True) rfl (fun _ hk => hk) trivial (of_decide_eq_true qe_) (Nat.le_trans (Nat.mul_le_mul_right _ (of_decide_eq_true qe_ : (l0.length : Int).toNat ≤ 35184372088832)) (by omega)) (Below.refl _ _) (Nat.le_refl _) ?_; intro v144 w16 ho17 hb hg_ hnew_; clear hg_ hnew_; (first | rw [← Ny143.out] at ho17 | (simp only [Int.reduceToNat] at ho17; rw [← Ny143.out] at ho17)); have HO145 := rl_ w ho17; replace HB := b1_ hb; clear hb ho17))
        go_loopg [28] kj2 (fun kq v28 w' => ∃ (x5_2 : List Int) (x28_2 : Int), v28 = .int .i64 x28_2 ∧ Aside0 (impl_RenamePerm.l0 kq l1 x5_2 l0 (l0.length : Int) x28_2 = some r) ∧ Aside0 (kq ≤ kj2) ∧ Aside0 (Kd.R (Kd.int .i64) 3 w' w.heap.size (fun _ => True) v144 x5_2) ∧ Aside0 (Below w.heap.size w w'))
        case atStart => exact ⟨(y143), (0), qc_, H', ⟨Nat.le_refl _⟩, ⟨(rr_ HO145)⟩, ⟨hB_⟩⟩
        case round =>
          clear H'
          obtain ⟨x5_2, x28_2, rfl, HA, HK2, HO_5, HB⟩ := hrel
          cases gk with
          | zero => exact absurd HA.out (by simp [impl_RenamePerm.l0])
          | succ k2 =>
            have H := HA.out
            clear HA
            simp only [impl_RenamePerm.l0] at H
            by_cases c18 : x28_2 < (l0.length : Int)
            · rw [if_pos c18] at H
              have c18b0 := decide_eq_true c18
              clear c18
              have c19 := cp_ H
              replace H := ca_ H
              have c19b0 := decide_eq_true c19
              clear c19
              have c20 := cp_ H
              replace H := ca_ H
              have c20b0 := decide_eq_true c20
              clear c20
              have c21 := cp_ H
              replace H := ca_ H
              have c21b0 := decide_eq_true c21
              clear c21
              have c22 := cp_ H
              replace H := ca_ H
              have c22b0 := decide_eq_true c22
              clear c22
              have c23 := cp_ H
              replace H := ca_ H
              have c23b0 := decide_eq_true c23
              clear c23
              have c24 := cp_ H
              replace H := ca_ H
              have c24b0 := decide_eq_true c24
              clear c24
              have c25 := cp_ H
              replace H := ca_ H
              have c25b0 := decide_eq_true c25
              clear c25
              obtain ⟨y149, hy149⟩ : ∃ y_ : List Int, y_ = (x5_2.set ((rd l1 x28_2) : Int).toNat (rd l1 (rd l0 x28_2))) := ⟨_, rfl⟩
              replace H : (impl_RenamePerm.l0 k2 l1 y149 l0 (l0.length : Int) (wrap64 (x28_2 + 1))) = some r := by first | (rw [hy149]; exact H) | exact H
              have Ny149 := Aside0.mk hy149
              clear hy149
              have H' := Aside0.mk H
              clear H
              have p146 : 0 ≤ (x28_2 : Int) := of_decide_eq_true qe_
              have q146 : x28_2 < (l0.length : Int) := of_decide_eq_true qe_
              obtain ⟨ad146, e146, hx146_0⟩ := Kd.at_int HR0.out x28_2 p146 q146
              cases e146
              replace hx146_0 := (HB.out.cell (World.block_lt_of_cell? w _ hx146_0)).trans hx146_0
              replace p146 := eq_true p146
              replace q146 := eq_true q146
              try go_wp2
              replace HO_5 := Aside0.mk (Kd.R_drew HO_5.out)
              replace HB := Aside0.mk (below_drew1 HB.out)
              have p147 : 0 ≤ (x28_2 : Int) := of_decide_eq_true qe_
              have q147 : x28_2 < (l1.length : Int) := of_decide_eq_true qe_
              obtain ⟨ad147, e147, hx147_0⟩ := Kd.at_int HR1.out x28_2 p147 q147
              have hw147_0 := hx147_0
              cases e147
              replace hx147_0 := (HB.out.cell (World.block_lt_of_cell? w _ hx147_0)).trans hx147_0
              replace p147 := eq_true p147
              replace q147 := eq_true q147
              have p148 : 0 ≤ ((rd l0 x28_2) : Int) := of_decide_eq_true qe_
              have q148 : (rd l0 x28_2) < (l1.length : Int) := of_decide_eq_true qe_
              obtain ⟨ad148, e148, hx148_0⟩ := Kd.at_int HR1.out (rd l0 x28_2) p148 q148
              have hw148_0 := hx148_0
              obtain rfl : ad147 = ad148 := (by injection e148)
              replace hx148_0 := (HB.out.cell (World.block_lt_of_cell? w _ hx148_0)).trans hx148_0
              replace p148 := eq_true p148
              replace q148 := eq_true q148
              have p26 : 0 ≤ ((rd l1 x28_2) : Int) := of_decide_eq_true qe_
              have q26 : ((rd l1 x28_2) : Int) < ((x5_2.length : Int) : Int) := of_decide_eq_true qe_
              obtain ⟨go26, co26, eo26, gb26, gl26, cl26, HG26⟩ := Kd.R_form HO_5.out (by omega)
              (first | cases eo26 | (injection eo26 with ea_ en_ ec_; (first | subst ea_ | (injection ea_ with ea_; subst ea_)); subst ec_; clear en_))
              have GB26 := Aside0.mk gb26
              have GG26 := Aside0.mk HG26
              clear gb26 gl26 HG26
              obtain ⟨hx26_0, hf26_0⟩ := Kd.R_celln 0 HO_5.out ((rd l1 x28_2) : Int) p26 q26
              replace p26 := eq_true p26
              replace q26 := eq_true q26
              have HP28 := Kd.R_putn HO_5.out ((rd l1 x28_2) : Int) (rd l1 (rd l0 x28_2))
              rw [← Ny149.out] at HP28
              have HQ28 := Aside0.mk HP28
              clear HP28
              refine start_ (n := 11) (S := fun w' => w'.cell? (ad147.add (x28_2).toNat) = some (.int .i64 (rd l1 x28_2)) ∧ w'.cell? (ad147.add ((rd l0 x28_2)).toNat) = some (.int .i64 (rd l1 (rd l0 x28_2)))) (ds := [10]) (bl_ 11 0) (by kernel_rfl) rfl (by kernel_rfl) ⟨((HB.out.cell (World.block_lt_of_cell? w _ hw147_0)).trans hw147_0), ((HB.out.cell (World.block_lt_of_cell? w _ hw148_0)).trans hw148_0)⟩ (fun hHeld => ?_); refine with_tabW impl_RenamePerm.tab7 impl_RenamePerm.bits7 (fun HT_ HW_ => ?_)
              generalize wr.drew = w27 at HO_5 HB GG26 HQ28 hf26_0 hx147_0 hx148_0 hx26_0 hHeld ⊢
              refine pu_ 0 (some 33) (bl_ 11 1) HT_ ?_
              refine pu_ 1 (some 34) (bl_ 11 3) HT_ ?_
              refine pu_ 2 (some 35) (bl_ 11 7) HT_ ?_
              refine pu_ 3 (some 36) (bl_ 11 15) HT_ ?_
              refine pu_ 5 (some 38) (bl_ 11 47) HT_ ?_
              refine pu_ 6 (some 39) (bl_ 11 111) HT_ ?_
              refine pu_ 7 (some 40) (bl_ 11 239) HT_ ?_
              refine ta_ 4 (some 37) (bl_ 11 255) HT_ HW_ hHeld ?_
              refine ta_ 8 (some 41) (bl_ 11 511) HT_ HW_ hHeld ?_
              refine pu_ 9 (some 42) (bl_ 11 1023) HT_ ?_
              refine last_ (i := 10) (N := none) (bl_ 11 2047) rfl rfl (one_of HT_.out (by kernel_rfl)) (by decide) (fun K hK => ?_)
              refine skip_ (w1 := ?_) (by rfl) rfl ?_ ?_
              rotate_left
              · go_simp
                rfl
              refine hK.out _ _ ?_
              clear hK K
              refine done_ (done_of HT_.out (by kernel_rfl)) ?_
              try go_wp2
              go_roundg k2
              case measure => have := HJ2.out; have := HK2.out; omega
              case rel => exact ⟨(y149), (wrap64 (x28_2 + 1)), qc_, H', ⟨by have := HJ2.out; have := HK2.out; omega⟩, ⟨(rr_ HQ28)⟩, ⟨by repeat (first | (with_reducible first | exact HB.out | apply below_alloc | apply pw_below_drewN | apply below_drew1 | refine below_set ?_ GB26.out) | exact HB.out)⟩⟩
            · rw [if_neg c18] at H
              have c18b0 := decide_eq_false c18
              clear c18
              obtain rfl := Option.some.inj H
              go_wp2
              go_ret
              exact ⟨_, qb_, (rr_ HO_5), hB_⟩
end Go.Proofs.Ytoijcallajegfaa.A
end
section
namespace Go.Proofs.Ytoijcallajegfaa.A
open Go.RowKit Go.Proofs.YtoijcallajegfaaW.PrintWords Go.Proofs.YtoijcallajegfaaW.PrintLast Go.Proofs.YtoijcallajegfaaW.PrintMore
attribute [local go_sem] max2_int min2_int max_two min_two max_three min_three max_four min_four
set_option linter.unusedVariables false
set_option linter.unusedSimpArgs false
def impl_RenameSurface.j0 : Nat → List Int → Bool → List Int → List Int → Option (List Int × List Int × Bool)
  | 0, _, _, _, _ => none
  | k + 1, x1, x21, x151000, x151001 => if x21 = true then (some (([] : List Int), ([] : List Int), false)) else ((impl_RenamePerm.f k x151000 x1).bind fun t154 => ((impl_RenamePerm.f k x151001 x1).bind fun t157 => (some (t154, t157, true))))
def impl_RenameSurface.f (k : Nat) (l0_0 : List Int) (l0_1 : List Int) (l1 : List Int) : Option (List Int × List Int × Bool) := (impl_SurfaceOk.f k l0_0 l0_1).bind fun t152 => (if t152 = true then ((impl_PermOk.f k l1).bind fun t153 => (if t153 = true then (impl_RenameSurface.j0 k l1 ((l1.length : Int) != (l0_0.length : Int)) l0_0 l0_1) else (impl_RenameSurface.j0 k l1 true l0_0 l0_1))) else (impl_RenameSurface.j0 k l1 true l0_0 l0_1))
theorem impl_RenameSurface.mono_l : ∀ k, (∀ y0 y1 y2 y3, LeO (impl_RenameSurface.j0 k y0 y1 y2 y3) (impl_RenameSurface.j0 (k + 1) y0 y1 y2 y3))
  | 0 => fun _ _ _ _ r h => by simp [impl_RenameSurface.j0] at h
  | k + 1 => by
    have ih0 := impl_RenameSurface.mono_l k
    · intro y0 y1 y2 y3
      unfold impl_RenameSurface.j0
      repeat' first|exact ih0 _ _ _ _|exact impl_PermOk.mono _ _|exact impl_RenamePerm.mono _ _ _|exact impl_SurfaceOk.mono _ _ _|exact lo_|refine LeO.ite ?_ ?_|refine LeO.bind ?_ (fun _ => ?_)
theorem impl_RenameSurface.mono : ∀ a0 a1 a2 k, LeO (impl_RenameSurface.f k a0 a1 a2) (impl_RenameSurface.f (k + 1) a0 a1 a2) := by
  intro a0 a1 a2 k
  have ih0 := impl_RenameSurface.mono_l k
  unfold impl_RenameSurface.f
  repeat' first|exact ih0 _ _ _ _|exact impl_PermOk.mono _ _|exact impl_RenamePerm.mono _ _ _|exact impl_SurfaceOk.mono _ _ _|exact lo_|refine LeO.ite ?_ ?_|refine LeO.bind ?_ (fun _ => ?_)
def impl_RenameSurface.T3 : Bool × List (List Nat × List Nat) := (true, [([], []), ([0], [0]), ([], []), ([1, 2], [1, 2]), ([], []), ([4], [4]), ([], []), ([5, 6, 3], [5, 6]), ([3, 7], [3, 7]), ([8, 7, 0, 1, 2, 3, 4, 5, 6, 7, 8], [8]), ([9, 0, 1, 2, 3, 4, 5, 6, 7, 8, 9], [])])
def impl_RenameSurface.B3 : List Nat := [0, 1, 0, 7, 0, 16, 0, 127, 255, 511, 1023]
theorem impl_RenameSurface.tab3 : rtab .any (opsOf Try.f107 3) = impl_RenameSurface.T3 := by kernel_rfl
theorem impl_RenameSurface.bits3 : waitsOk impl_RenameSurface.T3.2 impl_RenameSurface.B3 = true := by kernel_rfl
set_option maxHeartbeats 8000000 in
set_option maxRecDepth 100000 in
theorem impl_RenameSurface.calls (k : Nat) (A0_0 : Option Addr) (c0_0 : Nat) (l0_0 : List Int) (A0_1 : Option Addr) (c0_1 : Nat) (l0_1 : List Int) (A1 : Option Addr) (c1 : Nat) (l1 : List Int) (r1 : List Int) (r2 : List Int) (r3 : Bool) (w : World) (hr0_0 : Kd.C (Kd.int .i64) w A0_0 l0_0.length l0_0) (hc0_0 : l0_0.length ≤ c0_0) (hr0_1 : Kd.C (Kd.int .i64) w A0_1 l0_1.length l0_1) (hc0_1 : l0_1.length ≤ c0_1) (hr1 : Kd.C (Kd.int .i64) w A1 l1.length l1) (hc1 : l1.length ≤ c1) (h : impl_RenameSurface.f k l0_0 l0_1 l1 = some (r1, r2, r3)) :
    Calls Try.prog 107 #[.agg #[.slice A0_0 l0_0.length c0_0, .slice A0_1 l0_1.length c0_1], .slice A1 l1.length c1] w fun e w' => ∃ v0_ v1_ : Value, e = .returned (.tuple #[.agg #[v0_, v1_], .bool r3]) ∧ Kd.R (Kd.int .i64) 3 w' w.heap.size (fun k_ => some k_ ≠ (v1_ : Value).ownBlock) v0_ r1 ∧ Kd.R (Kd.int .i64) 3 w' w.heap.size (fun k_ => some k_ ≠ (v0_ : Value).ownBlock) v1_ r2 ∧ Below w.heap.size w w' := by
  have hu33 := Try.underlying33
  have HR0_0 := Aside0.mk hr0_0
  have HC0_0 := Aside0.mk hc0_0
  clear hr0_0 hc0_0
  have HR0_1 := Aside0.mk hr0_1
  have HC0_1 := Aside0.mk hc0_1
  clear hr0_1 hc0_1
  have HR1 := Aside0.mk hr1
  have HC1 := Aside0.mk hc1
  clear hr1 hc1
  have HB := Aside0.mk (Below.refl w.heap.size w)
  have H := h
  unfold impl_RenameSurface.f at H
  clear h
  have HC3 := Aside0.mk H
  clear H
  go_enter Try.func107, Try.ntmps107
  go_upto_region 1 with (first | ((with_reducible refine gate_dst (N := 2) rfl ?_); (try (refine gate_guard (by rfl) ?_; dsimp only)); refine bx_ 2 #[.slice A0_0 l0_0.length c0_0, .slice A0_1 l0_1.length c0_1] 33 ?_; intro gb150 hg w4 hbox hb; have BK150 := Aside0.mk hbox; have GW150 := gw_ w hg; have GE150 := GW150; replace HB := b1_ hb; clear hb hbox hg) | ((with_reducible refine gate_dst (N := 4) rfl ?_); (try (refine gate_guard (by rfl) ?_; dsimp only)); refine bx_ 4 #[.slice none 0 0, .slice none 0 0] 33 ?_; intro gb151 hg w5 hbox hb; have BK151 := Aside0.mk hbox; have GW151 := gw_ w hg; have GE151 := GW151; replace HB := b1_ hb; have NB150_151 := gN_ BK150 hg; have NB151_150 := gP_ BK150 hg; replace BK150 := bb_ BK150 hb; clear hb hbox hg))
  (try simp only [Act.put, List.setIfInBounds_toArray, List.set_cons_zero, List.set_cons_succ])
  go_cut [21] (fun v21 wc => ∃ (kq : Nat) (x21_2 : Bool), v21 = .bool x21_2 ∧ Aside0 (impl_RenameSurface.j0 kq l1 x21_2 l0_0 l0_1 = some (r1, r2, r3)) ∧ Aside0 (kq ≤ k) ∧ Aside0 (wc.heap[gb150]? = some (.cells #[(.slice A0_0 l0_0.length c0_0), (.slice A0_1 l0_1.length c0_1)] 33 (0, 0))) ∧ Aside0 (wc.heap[gb151]? = some (.cells #[(.slice none 0 0), (.slice none 0 0)] 33 (0, 0))) ∧ Aside0 (Below w.heap.size w wc))
  case first =>
    have H := HC3.out
    clear HC3
    obtain ⟨t152, A6, H⟩ := bi_ H
    by_cases c7 : t152 = true
    · subst c7
      rw [if_pos rfl] at H
      obtain ⟨t153, A8, H⟩ := bi_ H
      by_cases c9 : t153 = true
      · subst c9
        rw [if_pos rfl] at H
        have H' := Aside0.mk H
        clear H
        have hnb10 := NB150_151.out
        have hnc10 := NB151_150.out
        obtain ⟨hcz11_0, hcz11_1, hfz11_0, hfz11_1⟩ := c2_ BK150
        go_wp2_with (first | ((with_reducible refine gate_callee (f := 19) rfl ?_); refine gL_ (some 7) Try.func19 #[.agg #[.slice A0_0 l0_0.length c0_0, .slice A0_1 l0_1.length c0_1]] rfl qa_ ?_; (with_reducible refine (impl_SurfaceOk.calls k _ _ l0_0 _ _ l0_1 true _ (cb_ HR0_0) HC0_0.out (cb_ HR0_1) HC0_1.out A6.out).mono ?_); rintro e w12 ⟨rfl, hb⟩; refine ⟨_, rfl, ?_⟩; replace BK150 := bb_ BK150 hb; replace BK151 := bb_ BK151 hb; replace HB := b1_ hb; clear hb) | (go_at_call 109; (with_reducible refine (impl_PermOk.calls k _ _ l1 true _ (cb_ HR1) HC1.out A8.out).mono ?_); rintro e w13 ⟨rfl, hb⟩; replace BK150 := bb_ BK150 hb; replace BK151 := bb_ BK151 hb; replace HB := b1_ hb; clear hb; obtain ⟨hcz14_0, hcz14_1, hfz14_0, hfz14_1⟩ := c2_ BK150))
        go_meet
        case rel => exact ⟨_, (((l1.length : Int) != (l0_0.length : Int))), qc_, H', ⟨qd_⟩, ⟨(kk_ BK150)⟩, ⟨(kk_ BK151)⟩, ⟨hB_⟩⟩
      · replace c9 := Bool.eq_false_iff.mpr c9
        subst c9
        have H1 : (impl_RenameSurface.j0 k l1 true l0_0 l0_1) = some (r1, r2, r3) := by rw [if_neg (show ¬ (false = true) by decide)] at H; exact H
        clear H
        have H := H1
        clear H1
        have H' := Aside0.mk H
        clear H
        have hnb15 := NB150_151.out
        have hnc15 := NB151_150.out
        obtain ⟨hcz16_0, hcz16_1, hfz16_0, hfz16_1⟩ := c2_ BK150
        go_wp2_with (first | ((with_reducible refine gate_callee (f := 19) rfl ?_); refine gL_ (some 7) Try.func19 #[.agg #[.slice A0_0 l0_0.length c0_0, .slice A0_1 l0_1.length c0_1]] rfl qa_ ?_; (with_reducible refine (impl_SurfaceOk.calls k _ _ l0_0 _ _ l0_1 true _ (cb_ HR0_0) HC0_0.out (cb_ HR0_1) HC0_1.out A6.out).mono ?_); rintro e w17 ⟨rfl, hb⟩; refine ⟨_, rfl, ?_⟩; replace BK150 := bb_ BK150 hb; replace BK151 := bb_ BK151 hb; replace HB := b1_ hb; clear hb) | (go_at_call 109; (with_reducible refine (impl_PermOk.calls k _ _ l1 false _ (cb_ HR1) HC1.out A8.out).mono ?_); rintro e w18 ⟨rfl, hb⟩; replace BK150 := bb_ BK150 hb; replace BK151 := bb_ BK151 hb; replace HB := b1_ hb; clear hb))
        go_meet
        case rel => exact ⟨_, (true), qc_, H', ⟨qd_⟩, ⟨(kk_ BK150)⟩, ⟨(kk_ BK151)⟩, ⟨hB_⟩⟩
    · replace c7 := Bool.eq_false_iff.mpr c7
      subst c7
      have H1 : (impl_RenameSurface.j0 k l1 true l0_0 l0_1) = some (r1, r2, r3) := by rw [if_neg (show ¬ (false = true) by decide)] at H; exact H
      clear H
      have H := H1
      clear H1
      have H' := Aside0.mk H
      clear H
      have hnb19 := NB150_151.out
      have hnc19 := NB151_150.out
      obtain ⟨hcz20_0, hcz20_1, hfz20_0, hfz20_1⟩ := c2_ BK150
      go_wp2_with (first | ((with_reducible refine gate_callee (f := 19) rfl ?_); refine gL_ (some 7) Try.func19 #[.agg #[.slice A0_0 l0_0.length c0_0, .slice A0_1 l0_1.length c0_1]] rfl qa_ ?_; (with_reducible refine (impl_SurfaceOk.calls k _ _ l0_0 _ _ l0_1 false _ (cb_ HR0_0) HC0_0.out (cb_ HR0_1) HC0_1.out A6.out).mono ?_); rintro e w21 ⟨rfl, hb⟩; refine ⟨_, rfl, ?_⟩; replace BK150 := bb_ BK150 hb; replace BK151 := bb_ BK151 hb; replace HB := b1_ hb; clear hb))
      go_meet
      case rel => exact ⟨_, (true), qc_, H', ⟨qd_⟩, ⟨(kk_ BK150)⟩, ⟨(kk_ BK151)⟩, ⟨hB_⟩⟩
  case rest =>
    clear HC3
    obtain ⟨kq, x21_2, rfl, HA, HJ2, BK150, BK151, HB⟩ := hcut
    cases kq with
    | zero => exact absurd HA.out (by simp [impl_RenameSurface.j0])
    | succ kj2 =>
      have H := HA.out
      clear HA
      simp only [impl_RenameSurface.j0] at H
      by_cases c22 : x21_2 = true
      · subst c22
        rw [if_pos rfl] at H
        simp only [Option.some.injEq, Prod.mk.injEq] at H
        obtain ⟨rfl, rfl, rfl⟩ := H
        have hnb23 := NB151_150.out
        have hnc23 := NB150_151.out
        obtain ⟨hcz24_0, hcz24_1, hfz24_0, hfz24_1⟩ := c2_ BK151
        go_wp2
        refine bodyPost_ret (results_ct rfl _ _ gb151 33 #[.slice none 0 0, .slice none 0 0] (0, 0) _ rfl qp_ Try.underlying33 rfl (by kernel_rfl)) rfl ?_
        exact ⟨_, _, qb_, by first | exact Kd.R_nil _ _ _ _ _ | exact Kd.N_nil _ _ _ _ _ | exact Kd.V_nil _ _ _ _ _ | exact Kd.Q_nil _ _ _ _ _ | exact Kd.S_nil _ _ _ _ _, by first | exact Kd.R_nil _ _ _ _ _ | exact Kd.N_nil _ _ _ _ _ | exact Kd.V_nil _ _ _ _ _ | exact Kd.Q_nil _ _ _ _ _ | exact Kd.S_nil _ _ _ _ _, hB_⟩
      · replace c22 := Bool.eq_false_iff.mpr c22
        subst c22
        have H1 : ((impl_RenamePerm.f kj2 l0_0 l1).bind fun t154 => ((impl_RenamePerm.f kj2 l0_1 l1).bind fun t157 => (some (t154, t157, true)))) = some (r1, r2, r3) := by rw [if_neg (show ¬ (false = true) by decide)] at H; exact H
        clear H
        have H := H1
        clear H1
        obtain ⟨t154, A25, H⟩ := bi_ H
        obtain ⟨t157, A26, H⟩ := bi_ H
        simp only [Option.some.injEq, Prod.mk.injEq] at H
        obtain ⟨rfl, rfl, rfl⟩ := H
        try go_wp2
        replace BK150 := Aside0.mk (blk_drew BK150.out)
        replace BK151 := Aside0.mk (blk_drew BK151.out)
        replace HB := Aside0.mk (below_drew1 HB.out)
        refine start_ (n := 11) (S := fun w' => w'.cell? ⟨gb150, 0, none⟩ = some (.slice A0_0 l0_0.length c0_0) ∧ w'.cell? ⟨gb150, 1, none⟩ = some (.slice A0_1 l0_1.length c0_1)) (ds := []) (bl_ 11 0) (by kernel_rfl) rfl (by kernel_rfl) ⟨cz0_ BK150, cz1_ BK150⟩ (fun hHeld => ?_); refine with_tabW impl_RenameSurface.tab3 impl_RenameSurface.bits3 (fun HT_ HW_ => ?_)
        generalize wc.drew = w27 at BK150 BK151 HB hHeld ⊢
        refine pu_ 0 (some 23) (bl_ 11 1) HT_ ?_
        refine pu_ 2 (some 25) (bl_ 11 5) HT_ ?_
        refine pu_ 4 (some 27) (bl_ 11 21) HT_ ?_
        refine pu_ 6 (some 29) (bl_ 11 85) HT_ ?_
        refine ta_ 1 (some 24) (bl_ 11 87) HT_ HW_ hHeld ?_
        refine ta_ 5 (some 28) (bl_ 11 119) HT_ HW_ hHeld ?_
        refine on_ 3 (some 26) (bl_ 11 127) HT_ (fun K hK => ?_)
        refine gO_ Try.func150 #[.slice A0_0 l0_0.length c0_0, .slice A1 l1.length c1] (by rfl) rfl rfl qa_ ?_
        with_reducible refine (impl_RenamePerm.calls kj2 _ _ l0_0 _ _ l1 t154 _ (cb_ HR0_0) HC0_0.out (cb_ HR1) HC1.out A25.out).mono ?_
        rintro e w28 ⟨v155, rfl, ho0, hb⟩
        refine ⟨_, rfl, ?_⟩
        have HO156 := rl_ w ho0
        replace BK150 := bb_ BK150 hb
        replace BK151 := bb_ BK151 hb
        replace HB := b1_ hb
        clear hb ho0
        refine hK.out _ _ ⟨cz0_ BK150, cz1_ BK150⟩ (fun hHeld => ?_)
        clear hK K
        refine no_ (some 26) ?_
        refine on_ 7 (some 30) (bl_ 11 255) HT_ (fun K hK => ?_)
        refine gO_ Try.func150 #[.slice A0_1 l0_1.length c0_1, .slice A1 l1.length c1] (by rfl) rfl rfl qa_ ?_
        with_reducible refine (impl_RenamePerm.calls kj2 _ _ l0_1 _ _ l1 t157 _ (cb_ HR0_1) HC0_1.out (cb_ HR1) HC1.out A26.out).mono ?_
        rintro e w29 ⟨v158, rfl, ho0, hb⟩
        refine ⟨_, rfl, ?_⟩
        have HO159 := Aside0.mk (Kd.R_lower (Kd.R_new' ho0 (Kd.R_lt (rr_ HO156))) (below_size hB_))
        replace HO156 := Aside0.mk (Kd.R_elder' (rr_ HO156) (Kd.R_base ho0) hb)
        replace BK150 := bb_ BK150 hb
        replace BK151 := bb_ BK151 hb
        replace HB := b1_ hb
        clear hb ho0
        obtain ⟨Ao30, co30, eo30⟩ := Kd.R_slice HO159.out
        (first | subst eo30 | (injection eo30 with f1_ f2_ f3_; have f4_ := f1_.symm; have f5_ := f3_.symm; clear f1_ f2_ f3_; subst f4_; subst f5_))
        obtain ⟨Ao31, co31, eo31⟩ := Kd.R_slice HO156.out
        (first | subst eo31 | (injection eo31 with f1_ f2_ f3_; have f4_ := f1_.symm; have f5_ := f3_.symm; clear f1_ f2_ f3_; subst f4_; subst f5_))
        refine hK.out _ _ ⟨cz0_ BK150, cz1_ BK150⟩ (fun hHeld => ?_)
        clear hK K
        refine no_ (some 30) ?_
        refine pu_ 8 (some 31) (bl_ 11 511) HT_ ?_
        refine on_ 9 (none) (bl_ 11 1023) HT_ (fun K hK => ?_)
        have hs32 : w29.cell? ⟨gb151, 0, none⟩ = some (.slice none 0 0) := cz0_ BK151
        have hfs32 := blk_frozen BK151.out 0
        have hns32_0 := NB150_151.out
        have hms32_0 := NB151_150.out
        have hs33 : w29.cell? ⟨gb151, 1, none⟩ = some (.slice none 0 0) := cz1_ BK151
        have hfs33 := blk_frozen BK151.out 1
        have hns33_0 := NB150_151.out
        have hms33_0 := NB151_150.out
        refine skip_ (w1 := ?_) (by rfl) rfl ?_ ?_
        rotate_left
        · go_simp
          rfl
        refine hK.out _ _ ⟨((cell_far (p := ⟨gb151, _, none⟩) NB150_151.out _).trans (((cell_far (p := ⟨gb151, _, none⟩) NB150_151.out _).trans (hHeld.1)))), ((cell_far (p := ⟨gb151, _, none⟩) NB150_151.out _).trans (((cell_far (p := ⟨gb151, _, none⟩) NB150_151.out _).trans (hHeld.2))))⟩ (fun hHeld => ?_)
        clear hK K
        refine pu_ 10 (some 5) (bl_ 11 2047) HT_ ?_
        refine done_ (done_of HT_.out (by kernel_rfl)) ?_
        try go_wp2
        refine bodyPost_ret (results_ct rfl _ _ gb151 33 #[.slice Ao31 t154.length co31, .slice Ao30 t157.length co30] (0, 0) _ rfl qp_ Try.underlying33 rfl (by kernel_rfl)) rfl ?_
        exact ⟨_, _, qb_, (rw_ (Kd.R_mono (fa_ HO156 BK151) (fun _ hk => hk.2))), (rw_ (Kd.R_mono (fa_ HO159 BK151) (fun _ hk => hk.2))), hB_⟩
end Go.Proofs.Ytoijcallajegfaa.A
end
section
namespace Go.Proofs.Ytoijcallajegfaa.A
open Go.RowKit Go.Proofs.YtoijcallajegfaaW.PrintWords Go.Proofs.YtoijcallajegfaaW.PrintLast Go.Proofs.YtoijcallajegfaaW.PrintMore
attribute [local go_sem] max2_int min2_int max_two min_two max_three min_three max_four min_four
set_option linter.unusedVariables false
set_option linter.unusedSimpArgs false
mutual
def impl_NamesFrom.j0 : Nat → Int → Bool → List Int → List Int → Option (List Int)
  | 0, _, _, _, _ => none
  | k + 1, x1, x24, x161000, x161001 => if x24 = true then (some ([] : List Int)) else (if 0 ≤ (x161000.length : Int) then (if ((x161000.length : Int) : Int).toNat ≤ 35184372088832 then ((some (List.replicate ((x161000.length : Int) : Int).toNat 0 : List Int)).bind fun y162 => (impl_NamesFrom.l0 k x1 y162 (y162.length : Int) 0 x161000 x161001)) else (none)) else (none))
def impl_NamesFrom.l0 : Nat → Int → List Int → Int → Int → List Int → List Int → Option (List Int)
  | 0, _, _, _, _, _, _ => none
  | k + 1, x1, x5, x30, x31, x161000, x161001 => if x31 < x30 then (if 0 ≤ x31 then (if x31 < (x5.length : Int) then (impl_NamesFrom.l0 k x1 (x5.set (x31 : Int).toNat (-1)) x30 (wrap64 (x31 + 1)) x161000 x161001) else (none)) else (none)) else (if 0 ≤ x1 then (if x1 < (x5.length : Int) then (impl_NamesFrom.l1 k (x5.set (x1 : Int).toNat 0) (([x1] : List Int)) 0 x161000 x161001) else (none)) else (none))
def impl_NamesFrom.l1 : Nat → List Int → List Int → Int → List Int → List Int → Option (List Int)
  | 0, _, _, _, _, _ => none
  | k + 1, x5, x7, x8, x161000, x161001 => if x8 < (x7.length : Int) then (if 0 ≤ x8 then (if 0 ≤ (rd x7 x8) then (if (rd x7 x8) < (x161000.length : Int) then (if (rd x7 x8) < (x161001.length : Int) then ((some (([rd x161000 (rd x7 x8), rd x161001 (rd x7 x8)] : List Int) : List Int)).bind fun y174 => (impl_NamesFrom.l2 k x5 x7 x8 y174 (y174.length : Int) 0 x161000 x161001)) else (none)) else (none)) else (none)) else (none)) else (some x5)
def impl_NamesFrom.l2 : Nat → List Int → List Int → Int → List Int → Int → Int → List Int → List Int → Option (List Int)
  | 0, _, _, _, _, _, _, _, _ => none
  | k + 1, x5, x7, x8, x65, x66, x67, x161000, x161001 => if x67 < x66 then (if 0 ≤ x67 then (if x67 < (x65.length : Int) then (if 0 ≤ (rd x65 x67) then (if (rd x65 x67) < (x5.length : Int) then (if (rd x5 (rd x65 x67)) < 0 then (if x7.length < 17592186044416 then (impl_NamesFrom.l2 k (x5.set ((rd x65 x67) : Int).toNat (x7.length : Int)) (x7 ++ [rd x65 x67]) x8 x65 x66 (wrap64 (x67 + 1)) x161000 x161001) else (none)) else (impl_NamesFrom.l2 k x5 x7 x8 x65 x66 (wrap64 (x67 + 1)) x161000 x161001)) else (none)) else (none)) else (none)) else (none)) else (impl_NamesFrom.l1 k x5 x7 (wrap64 (x8 + 1)) x161000 x161001)
end
def impl_NamesFrom.f (k : Nat) (l0_0 : List Int) (l0_1 : List Int) (a1 : Int) : Option (List Int) := (impl_SurfaceOk.f k l0_0 l0_1).bind fun t161 => (if t161 = true then (if a1 < 0 then (impl_NamesFrom.j0 k a1 true l0_0 l0_1) else (impl_NamesFrom.j0 k a1 (decide (a1 ≥ (l0_0.length : Int))) l0_0 l0_1)) else (impl_NamesFrom.j0 k a1 true l0_0 l0_1))
theorem impl_NamesFrom.mono_l : ∀ k, (∀ y0 y1 y2 y3, LeO (impl_NamesFrom.j0 k y0 y1 y2 y3) (impl_NamesFrom.j0 (k + 1) y0 y1 y2 y3)) ∧ (∀ y0 y1 y2 y3 y4 y5, LeO (impl_NamesFrom.l0 k y0 y1 y2 y3 y4 y5) (impl_NamesFrom.l0 (k + 1) y0 y1 y2 y3 y4 y5)) ∧ (∀ y0 y1 y2 y3 y4, LeO (impl_NamesFrom.l1 k y0 y1 y2 y3 y4) (impl_NamesFrom.l1 (k + 1) y0 y1 y2 y3 y4)) ∧ (∀ y0 y1 y2 y3 y4 y5 y6 y7, LeO (impl_NamesFrom.l2 k y0 y1 y2 y3 y4 y5 y6 y7) (impl_NamesFrom.l2 (k + 1) y0 y1 y2 y3 y4 y5 y6 y7))
  | 0 => ⟨fun _ _ _ _ r h => by simp [impl_NamesFrom.j0] at h, fun _ _ _ _ _ _ r h => by simp [impl_NamesFrom.l0] at h, fun _ _ _ _ _ r h => by simp [impl_NamesFrom.l1] at h, fun _ _ _ _ _ _ _ _ r h => by simp [impl_NamesFrom.l2] at h⟩
  | k + 1 => by
    obtain ⟨ih0, ih1, ih2, ih3⟩ := impl_NamesFrom.mono_l k
    refine ⟨?_, ?_, ?_, ?_⟩
    · intro y0 y1 y2 y3
      unfold impl_NamesFrom.j0
      repeat' first|exact ih0 _ _ _ _|exact ih1 _ _ _ _ _ _|exact ih2 _ _ _ _ _|exact ih3 _ _ _ _ _ _ _ _|exact impl_SurfaceOk.mono _ _ _|exact lo_|refine LeO.ite ?_ ?_|refine LeO.bind ?_ (fun _ => ?_)
    · intro y0 y1 y2 y3 y4 y5
      unfold impl_NamesFrom.l0
      repeat' first|exact ih0 _ _ _ _|exact ih1 _ _ _ _ _ _|exact ih2 _ _ _ _ _|exact ih3 _ _ _ _ _ _ _ _|exact impl_SurfaceOk.mono _ _ _|exact lo_|refine LeO.ite ?_ ?_|refine LeO.bind ?_ (fun _ => ?_)
    · intro y0 y1 y2 y3 y4
      unfold impl_NamesFrom.l1
      repeat' first|exact ih0 _ _ _ _|exact ih1 _ _ _ _ _ _|exact ih2 _ _ _ _ _|exact ih3 _ _ _ _ _ _ _ _|exact impl_SurfaceOk.mono _ _ _|exact lo_|refine LeO.ite ?_ ?_|refine LeO.bind ?_ (fun _ => ?_)
    · intro y0 y1 y2 y3 y4 y5 y6 y7
      unfold impl_NamesFrom.l2
      repeat' first|exact ih0 _ _ _ _|exact ih1 _ _ _ _ _ _|exact ih2 _ _ _ _ _|exact ih3 _ _ _ _ _ _ _ _|exact impl_SurfaceOk.mono _ _ _|exact lo_|refine LeO.ite ?_ ?_|refine LeO.bind ?_ (fun _ => ?_)
theorem impl_NamesFrom.mono : ∀ a0 a1 a2 k, LeO (impl_NamesFrom.f k a0 a1 a2) (impl_NamesFrom.f (k + 1) a0 a1 a2) := by
  intro a0 a1 a2 k
  obtain ⟨ih0, ih1, ih2, ih3⟩ := impl_NamesFrom.mono_l k
  unfold impl_NamesFrom.f
  repeat' first|exact ih0 _ _ _ _|exact ih1 _ _ _ _ _ _|exact ih2 _ _ _ _ _|exact ih3 _ _ _ _ _ _ _ _|exact impl_SurfaceOk.mono _ _ _|exact lo_|refine LeO.ite ?_ ?_|refine LeO.bind ?_ (fun _ => ?_)
def impl_NamesFrom.T14 : Bool × List (List Nat × List Nat) := (true, [([], []), ([0], [0]), ([], []), ([], []), ([2, 3], [2, 3]), ([4], [4]), ([1, 5], [1, 5]), ([6], [6]), ([], []), ([8], [8]), ([], []), ([], []), ([10, 11], [10, 11]), ([12], [12]), ([9, 13], [9, 13]), ([14], [14]), ([7, 15], [7, 15]), ([16], [16]), ([], [])])
def impl_NamesFrom.B14 : List Nat := [0, 1, 0, 0, 12, 28, 63, 127, 0, 256, 0, 0, 3072, 7168, 16128, 32512, 65535, 131071, 0]
theorem impl_NamesFrom.tab14 : rtab .any (opsOf Try.f108 14) = impl_NamesFrom.T14 := by kernel_rfl
theorem impl_NamesFrom.bits14 : waitsOk impl_NamesFrom.T14.2 impl_NamesFrom.B14 = true := by kernel_rfl
set_option maxHeartbeats 8000000 in
set_option maxRecDepth 100000 in
theorem impl_NamesFrom.calls (k : Nat) (A0_0 : Option Addr) (c0_0 : Nat) (l0_0 : List Int) (A0_1 : Option Addr) (c0_1 : Nat) (l0_1 : List Int) (a1 : Int) (r : List Int) (w : World) (hr0_0 : Kd.C (Kd.int .i64) w A0_0 l0_0.length l0_0) (hc0_0 : l0_0.length ≤ c0_0) (hr0_1 : Kd.C (Kd.int .i64) w A0_1 l0_1.length l0_1) (hc0_1 : l0_1.length ≤ c0_1) (h : impl_NamesFrom.f k l0_0 l0_1 a1 = some r) :
    Calls Try.prog 108 #[.agg #[.slice A0_0 l0_0.length c0_0, .slice A0_1 l0_1.length c0_1], .int .i64 a1] w fun e w' => ∃ v0_ : Value, e = .returned (v0_) ∧ Kd.R (Kd.int .i64) 3 w' w.heap.size (fun _ => True) v0_ r ∧ Below w.heap.size w w' := by
  have hu33 := Try.underlying33
  have HR0_0 := Aside0.mk hr0_0
  have HC0_0 := Aside0.mk hc0_0
  clear hr0_0 hc0_0
  have HR0_1 := Aside0.mk hr0_1
  have HC0_1 := Aside0.mk hc0_1
  clear hr0_1 hc0_1
  have HB := Aside0.mk (Below.refl w.heap.size w)
  have H := h
  unfold impl_NamesFrom.f at H
  clear h
  have HC3 := Aside0.mk H
  clear H
  go_enter Try.func108, Try.ntmps108
  go_upto_region 1 with (first | ((with_reducible refine gate_dst (N := 2) rfl ?_); (try (refine gate_guard (by rfl) ?_; dsimp only)); refine bx_ 2 #[.slice A0_0 l0_0.length c0_0, .slice A0_1 l0_1.length c0_1] 33 ?_; intro gb160 hg w4 hbox hb; have BK160 := Aside0.mk hbox; have GW160 := gw_ w hg; have GE160 := GW160; replace HB := b1_ hb; clear hb hbox hg))
  (try simp only [Act.put, List.setIfInBounds_toArray, List.set_cons_zero, List.set_cons_succ])
  go_cut [24] (fun v24 wc => ∃ (kq : Nat) (x24_2 : Bool), v24 = .bool x24_2 ∧ Aside0 (impl_NamesFrom.j0 kq a1 x24_2 l0_0 l0_1 = some r) ∧ Aside0 (kq ≤ k) ∧ Aside0 (wc.heap[gb160]? = some (.cells #[(.slice A0_0 l0_0.length c0_0), (.slice A0_1 l0_1.length c0_1)] 33 (0, 0))) ∧ Aside0 (Below w.heap.size w wc))
  case first =>
    have H := HC3.out
    clear HC3
    obtain ⟨t161, A5, H⟩ := bi_ H
    by_cases c6 : t161 = true
    · subst c6
      rw [if_pos rfl] at H
      by_cases c7 : a1 < 0
      · rw [if_pos c7] at H
        have c7b0 := decide_eq_true c7
        clear c7
        (first | rw [c7b0] | (simp only [i64_w, i32_w]; rw [c7b0]) | skip)
        have H' := Aside0.mk H
        clear H
        obtain ⟨hcz8_0, hcz8_1, hfz8_0, hfz8_1⟩ := c2_ BK160
        go_wp2_with (first | ((with_reducible refine gate_callee (f := 19) rfl ?_); refine gL_ (some 12) Try.func19 #[.agg #[.slice A0_0 l0_0.length c0_0, .slice A0_1 l0_1.length c0_1]] rfl qa_ ?_; (with_reducible refine (impl_SurfaceOk.calls k _ _ l0_0 _ _ l0_1 true _ (cb_ HR0_0) HC0_0.out (cb_ HR0_1) HC0_1.out A5.out).mono ?_); rintro e w9 ⟨rfl, hb⟩; refine ⟨_, rfl, ?_⟩; replace BK160 := bb_ BK160 hb; replace HB := b1_ hb; clear hb))
        go_meet
        case rel => exact ⟨_, (true), qc_, H', ⟨qd_⟩, ⟨(kk_ BK160)⟩, ⟨hB_⟩⟩
      · rw [if_neg c7] at H
        have c7b0 := decide_eq_false c7
        clear c7
        (first | rw [c7b0] | (simp only [i64_w, i32_w]; rw [c7b0]) | skip)
        have H' := Aside0.mk H
        clear H
        obtain ⟨hcz10_0, hcz10_1, hfz10_0, hfz10_1⟩ := c2_ BK160
        go_wp2_with (first | ((with_reducible refine gate_callee (f := 19) rfl ?_); refine gL_ (some 12) Try.func19 #[.agg #[.slice A0_0 l0_0.length c0_0, .slice A0_1 l0_1.length c0_1]] rfl qa_ ?_; (with_reducible refine (impl_SurfaceOk.calls k _ _ l0_0 _ _ l0_1 true _ (cb_ HR0_0) HC0_0.out (cb_ HR0_1) HC0_1.out A5.out).mono ?_); rintro e w11 ⟨rfl, hb⟩; refine ⟨_, rfl, ?_⟩; replace BK160 := bb_ BK160 hb; replace HB := b1_ hb; clear hb; obtain ⟨hcz12_0, hcz12_1, hfz12_0, hfz12_1⟩ := c2_ BK160))
        go_meet
        case rel => exact ⟨_, (decide (a1 ≥ (l0_0.length : Int))), qc_, H', ⟨qd_⟩, ⟨(kk_ BK160)⟩, ⟨hB_⟩⟩
    · replace c6 := Bool.eq_false_iff.mpr c6
      subst c6
      have H1 : (impl_NamesFrom.j0 k a1 true l0_0 l0_1) = some r := by rw [if_neg (show ¬ (false = true) by decide)] at H; exact H
      clear H
      have H := H1
      clear H1
      have H' := Aside0.mk H
      clear H
      obtain ⟨hcz13_0, hcz13_1, hfz13_0, hfz13_1⟩ := c2_ BK160
      go_wp2_with (first | ((with_reducible refine gate_callee (f := 19) rfl ?_); refine gL_ (some 12) Try.func19 #[.agg #[.slice A0_0 l0_0.length c0_0, .slice A0_1 l0_1.length c0_1]] rfl qa_ ?_; (with_reducible refine (impl_SurfaceOk.calls k _ _ l0_0 _ _ l0_1 false _ (cb_ HR0_0) HC0_0.out (cb_ HR0_1) HC0_1.out A5.out).mono ?_); rintro e w14 ⟨rfl, hb⟩; refine ⟨_, rfl, ?_⟩; replace BK160 := bb_ BK160 hb; replace HB := b1_ hb; clear hb))
      go_meet
      case rel => exact ⟨_, (true), qc_, H', ⟨qd_⟩, ⟨(kk_ BK160)⟩, ⟨hB_⟩⟩
  case rest =>
    clear HC3
    obtain ⟨kq, x24_2, rfl, HA, HJ2, BK160, HB⟩ := hcut
    cases kq with
    | zero => exact absurd HA.out (by simp [impl_NamesFrom.j0])
    | succ kj2 =>
      have H := HA.out
      clear HA
      simp only [impl_NamesFrom.j0] at H
      by_cases c15 : x24_2 = true
      · subst c15
        rw [if_pos rfl] at H
        obtain rfl := Option.some.inj H
        go_wp2
        go_ret
        exact ⟨_, qb_, by first | exact Kd.R_nil _ _ _ _ _ | exact Kd.N_nil _ _ _ _ _ | exact Kd.V_nil _ _ _ _ _ | exact Kd.Q_nil _ _ _ _ _ | exact Kd.S_nil _ _ _ _ _, hB_⟩
      · replace c15 := Bool.eq_false_iff.mpr c15
        subst c15
        have H1 : (if 0 ≤ (l0_0.length : Int) then (if ((l0_0.length : Int) : Int).toNat ≤ 35184372088832 then ((some (List.replicate ((l0_0.length : Int) : Int).toNat 0 : List Int)).bind fun y162 => (impl_NamesFrom.l0 kj2 a1 y162 (y162.length : Int) 0 l0_0 l0_1)) else (none)) else (none)) = some r := by rw [if_neg (show ¬ (false = true) by decide)] at H; exact H
        clear H
        have H := H1
        clear H1
        have c16 := cp_ H
        replace H := ca_ H
        have c16b0 := eq_true c16
        have c16b1 := decide_eq_true c16
        clear c16
        have c17 := cp_ H
        replace H := ca_ H
        have c17b0 := eq_true c17
        have c17b1 := decide_eq_true c17
        clear c17
        obtain ⟨y162, hy162⟩ : ∃ y_ : List Int, y_ = (List.replicate ((l0_0.length : Int) : Int).toNat 0) := ⟨_, rfl⟩
        replace H : (impl_NamesFrom.l0 kj2 a1 y162 (y162.length : Int) 0 l0_0 l0_1) = some r := by first | (rw [hy162]; exact H) | exact H
        have Ny162 := Aside0.mk hy162
        clear hy162
        have H' := Aside0.mk H
        clear H
        obtain ⟨hcz18_0, hcz18_1, hfz18_0, hfz18_1⟩ := c2_ BK160
        go_wp2_with (first | ((with_reducible refine gate_dst (N := 28) rfl ?_); (try (refine gate_guard (by rfl) ?_; dsimp only)); refine Kd.R_make (Kd.int .i64) _ 3 rfl (N := 28) rfl 23 _ _ rfl (l0_0.length : Int) rfl rfl Try.underlying23 (.int .i64 0) 8 info3 rfl (by decide) (by omega) 0 (ok := fun _ => True) (okp := fun _ => True) rfl (fun _ hk => hk) trivial (of_decide_eq_true qe_) (Nat.le_trans (Nat.mul_le_mul_right _ (of_decide_eq_true qe_ : (l0_0.length : Int).toNat ≤ 35184372088832)) (by omega)) (Below.refl _ _) (Nat.le_refl _) ?_; intro v163 w19 ho20 hb hg_ hnew_; clear hg_ hnew_; (first | rw [← Ny162.out] at ho20 | (simp only [Int.reduceToNat] at ho20; rw [← Ny162.out] at ho20)); have HO164 := rl_ w ho20; replace BK160 := bb_ BK160 hb; replace HB := b1_ hb; clear hb ho20; obtain ⟨Ao21, co21, eo21⟩ := Kd.R_slice HO164.out; subst eo21))
        go_loopg [31] kj2 (fun kq v31 w' => ∃ (x5_2 : List Int) (x31_2 : Int), v31 = .int .i64 x31_2 ∧ Aside0 (impl_NamesFrom.l0 kq a1 x5_2 (y162.length : Int) x31_2 l0_0 l0_1 = some r) ∧ Aside0 (kq ≤ kj2) ∧ Aside0 (Kd.R (Kd.int .i64) 3 w' w.heap.size (fun _ => True) (.slice Ao21 y162.length co21) x5_2) ∧ Aside0 (w'.heap[gb160]? = some (.cells #[(.slice A0_0 l0_0.length c0_0), (.slice A0_1 l0_1.length c0_1)] 33 (0, 0))) ∧ Aside0 (Below w.heap.size w w'))
        case atStart => exact ⟨(y162), (0), qc_, H', ⟨Nat.le_refl _⟩, ⟨(rr_ HO164)⟩, ⟨(kk_ BK160)⟩, ⟨hB_⟩⟩
        case round =>
          clear H'
          obtain ⟨x5_2, x31_2, rfl, HA, HK2, HO_5, BK160, HB⟩ := hrel
          have hl5_2 := (Kd.R_reads' HO_5.out).1
          rw [hl5_2] at HO_5
          (try simp only [hl5_2])
          (try simp only [hl5_2] at BK160)
          cases gk with
          | zero => exact absurd HA.out (by simp [impl_NamesFrom.l0])
          | succ k2 =>
            have H := HA.out
            clear HA
            simp only [impl_NamesFrom.l0] at H
            by_cases c22 : x31_2 < (y162.length : Int)
            · rw [if_pos c22] at H
              have c22b0 := decide_eq_true c22
              clear c22
              have c23 := cp_ H
              replace H := ca_ H
              have c23b0 := decide_eq_true c23
              clear c23
              have c24 := cp_ H
              replace H := ca_ H
              have c24b0 := decide_eq_true c24
              clear c24
              obtain ⟨y165, hy165⟩ : ∃ y_ : List Int, y_ = (x5_2.set (x31_2 : Int).toNat (-1)) := ⟨_, rfl⟩
              replace H : (impl_NamesFrom.l0 k2 a1 y165 (y162.length : Int) (wrap64 (x31_2 + 1)) l0_0 l0_1) = some r := by first | (rw [hy165]; exact H) | exact H
              have Ny165 := Aside0.mk hy165
              clear hy165
              have H' := Aside0.mk H
              clear H
              have p25 : 0 ≤ (x31_2 : Int) := of_decide_eq_true qe_
              have q25 : (x31_2 : Int) < ((x5_2.length : Int) : Int) := of_decide_eq_true qe_
              obtain ⟨go25, co25, eo25, gb25, gl25, cl25, HG25⟩ := Kd.R_form HO_5.out (by omega)
              (first | cases eo25 | (injection eo25 with ea_ en_ ec_; (first | subst ea_ | (injection ea_ with ea_; subst ea_)); subst ec_; clear en_))
              have GB25 := Aside0.mk gb25
              have GG25 := Aside0.mk HG25
              clear gb25 gl25 HG25
              obtain ⟨hx25_0, hf25_0⟩ := Kd.R_celln 0 HO_5.out (x31_2 : Int) p25 q25
              replace p25 := eq_true p25
              replace q25 := eq_true q25
              have HP26 := Kd.R_putg HO_5.out (x31_2 : Int) (-1)
              go_wp2_with (first | ((with_reducible refine gate_store (t := 3) (p := 36) rfl ?_); refine store_event (t := 3) (p := 36) (v := ?vo_w27) (w1 := (wr.setCell ⟨go25, (x31_2 : Int).toNat, none⟩ (.int .i64 (-1)))) ?hg ?ho ?hn ?hr ?_; (case ho => rfl); (case hg => rfl); (case hn => rfl); (case hr => first | (go_simp; done) | (go_simp; rfl)); intro w27 hw; have hg : wr.grownBy w27 (some go25) := (by rw [hw]; exact HP26.2); have hp_ : Kd.R (Kd.int .i64) 3 w27 w.heap.size (fun _ => True) (.slice (some ⟨go25, 0, none⟩) x5_2.length co21) y165 := (by rw [hw, Ny165.out]; exact HP26.1); clear HP26; replace BK160 := Aside0.mk (blk_grown (kk_ BK160) hg (Kd.R_ne HO_5.out BK160.out (by decide))); replace HO_5 := Aside0.mk (hp_); replace HB := Aside0.mk ((by rw [hw]; exact below_set (HB.out) GB25.out : Below w.heap.size w w27)); clear hg hw hp_))
              (try simp only [← hl5_2])
              go_roundg k2
              case measure => have := HJ2.out; have := HK2.out; omega
              case rel => exact ⟨(y165), (wrap64 (x31_2 + 1)), qc_, H', ⟨by have := HJ2.out; have := HK2.out; omega⟩, ⟨by (try simp only [hl5_2]); (with_reducible repeat (first | apply Kd.R_alloc | apply Kd.R_drewN | apply Kd.R_drew)); exact HO_5.out⟩, ⟨by (try simp only [hl5_2]); (with_reducible repeat (first | refine blk_drewN ?_ _ | refine blk_drew ?_ | refine blk_alloc ?_ _)); exact BK160.out⟩, ⟨hB_⟩⟩
            · rw [if_neg c22] at H
              have c22b0 := decide_eq_false c22
              (try simp only [hl5_2] at c22b0)
              clear c22
              have c28 := cp_ H
              replace H := ca_ H
              have c28b0 := decide_eq_true c28
              clear c28
              have c29 := cp_ H
              replace H := ca_ H
              have c29b0 := decide_eq_true c29
              clear c29
              obtain ⟨y166, hy166⟩ : ∃ y_ : List Int, y_ = (x5_2.set (a1 : Int).toNat 0) := ⟨_, rfl⟩
              replace H : (impl_NamesFrom.l1 k2 y166 (([a1] : List Int)) 0 l0_0 l0_1) = some r := by first | (rw [hy166]; exact H) | exact H
              have Ny166 := Aside0.mk hy166
              clear hy166
              obtain ⟨y167, hy167⟩ : ∃ y_ : List Int, y_ = (([a1] : List Int)) := ⟨_, rfl⟩
              replace H : (impl_NamesFrom.l1 k2 y166 y167 0 l0_0 l0_1) = some r := by first | (rw [hy167]; exact H) | exact H
              have Ny167 := Aside0.mk hy167
              clear hy167
              have H' := Aside0.mk H
              clear H
              have p30 : 0 ≤ (a1 : Int) := of_decide_eq_true qe_
              have q30 : (a1 : Int) < ((x5_2.length : Int) : Int) := of_decide_eq_true qe_
              obtain ⟨go30, co30, eo30, gb30, gl30, cl30, HG30⟩ := Kd.R_form HO_5.out (by omega)
              (first | cases eo30 | (injection eo30 with ea_ en_ ec_; (first | subst ea_ | (injection ea_ with ea_; subst ea_)); subst ec_; clear en_))
              have GB30 := Aside0.mk gb30
              have GG30 := Aside0.mk HG30
              clear gb30 gl30 HG30
              obtain ⟨hx30_0, hf30_0⟩ := Kd.R_celln 0 HO_5.out (a1 : Int) p30 q30
              replace p30 := eq_true p30
              replace q30 := eq_true q30
              have HP31 := Kd.R_putg HO_5.out (a1 : Int) 0
              go_wp2_with (first | ((with_reducible refine gate_store (t := 3) (p := 40) rfl ?_); refine store_event (t := 3) (p := 40) (v := ?vo_w32) (w1 := (wr.setCell ⟨go30, (a1 : Int).toNat, none⟩ (.int .i64 0))) ?hg ?ho ?hn ?hr ?_; (case ho => rfl); (case hg => rfl); (case hn => rfl); (case hr => first | (go_simp; done) | (go_simp; rfl)); intro w32 hw; have hg : wr.grownBy w32 (some go30) := (by rw [hw]; exact HP31.2); have hp_ : Kd.R (Kd.int .i64) 3 w32 w.heap.size (fun _ => True) (.slice (some ⟨go30, 0, none⟩) x5_2.length co21) y166 := (by rw [hw, Ny166.out]; exact HP31.1); clear HP31; replace BK160 := Aside0.mk (blk_grown (kk_ BK160) hg (Kd.R_ne HO_5.out BK160.out (by decide))); replace HO_5 := Aside0.mk (hp_); replace HB := Aside0.mk ((by rw [hw]; exact below_set (HB.out) GB30.out : Below w.heap.size w w32)); clear hg hw hp_) | ((with_reducible refine gate_dst (N := 42) rfl ?_); (try (refine gate_guard (by rfl) ?_; dsimp only)); refine Kd.R_lit (Kd.int .i64) _ 3 ?hg (N := 42) ?hd (xs := ([a1] : List Int)) (inner := [.int .i64 a1]) (ok := fun _ => True) (okp := fun _ => True) ?hr ?hp (fun _ hk => hk) trivial (Below.refl _ _) (Nat.le_refl _) (by simp) ?_; (case hd => rfl); (case hg => rfl); (case hr => first | (go_simp; done) | (go_simp; rfl)); (case hp => exact (Reps.one (show Kd.M (Kd.int .i64) _ _ _ a1 [.int .i64 a1] from rfl) (Reps.none _ _))); intro v168 w33 ho34 hb hg_ hnew_; clear hg_ hnew_; (first | rw [← Ny167.out] at ho34 | (simp only [Int.reduceToNat] at ho34; rw [← Ny167.out] at ho34)); have HO169 := Aside0.mk (Kd.R_lower (Kd.R_new' ho34 (Kd.R_lt (rr_ HO_5))) (below_size hB_)); replace HO_5 := Aside0.mk (Kd.R_elder' (rr_ HO_5) (Kd.R_base ho34) hb); replace BK160 := bb_ BK160 hb; replace HB := b1_ hb; clear hb ho34))
              go_loopg [7, 8] k2 (fun kq v7 v8 w' => ∃ (x5_3 : List Int) (x7_3 : List Int) (x8_3 : Int), v8 = .int .i64 x8_3 ∧ Aside0 (impl_NamesFrom.l1 kq x5_3 x7_3 x8_3 l0_0 l0_1 = some r) ∧ Aside0 (kq ≤ k2) ∧ Aside0 (Kd.R (Kd.int .i64) 3 w' w.heap.size (fun k_ => some k_ ≠ (v7 : Value).ownBlock) (.slice (some ⟨go30, 0, none⟩) x5_2.length co21) x5_3) ∧ Aside0 (Kd.R (Kd.int .i64) 3 w' w.heap.size (fun k_ => some k_ ≠ ((.slice (some ⟨go30, 0, none⟩) x5_2.length co21) : Value).ownBlock) v7 x7_3) ∧ Aside0 (w'.heap[gb160]? = some (.cells #[(.slice A0_0 l0_0.length c0_0), (.slice A0_1 l0_1.length c0_1)] 33 (0, 0))) ∧ Aside0 (Below w.heap.size w w'))
              case atStart => exact ⟨(y166), (y167), (0), qc_, H', ⟨Nat.le_refl _⟩, ⟨by (try simp only [hl5_2]); (with_reducible repeat (first | apply Kd.R_alloc | apply Kd.R_drewN | apply Kd.R_drew)); exact Kd.R_mono HO_5.out (fun _ hk => hk.2)⟩, ⟨by (try simp only [hl5_2]); (with_reducible repeat (first | apply Kd.R_alloc | apply Kd.R_drewN | apply Kd.R_drew)); exact Kd.R_mono HO169.out (fun _ hk => hk.2)⟩, ⟨by (try simp only [hl5_2]); (with_reducible repeat (first | refine blk_drewN ?_ _ | refine blk_drew ?_ | refine blk_alloc ?_ _)); exact BK160.out⟩, ⟨hB_⟩⟩
              case round =>
                clear H'
                obtain ⟨x5_3, x7_3, x8_3, rfl, HA, HK3, HO_5, HO_7, BK160, HB⟩ := hrel
                have hl5_3 := (Kd.R_reads' HO_5.out).1
                rw [hl5_3] at HO_5
                (try simp only [hl5_3])
                (try simp only [hl5_3] at BK160)
                (try simp only [hl5_3] at HO_7)
                cases gk with
                | zero => exact absurd HA.out (by simp [impl_NamesFrom.l1])
                | succ k3 =>
                  have H := HA.out
                  clear HA
                  simp only [impl_NamesFrom.l1] at H
                  by_cases c35 : x8_3 < (x7_3.length : Int)
                  · rw [if_pos c35] at H
                    have c35b0 := decide_eq_true c35
                    clear c35
                    have c36 := cp_ H
                    replace H := ca_ H
                    have c36b0 := decide_eq_true c36
                    clear c36
                    have c37 := cp_ H
                    replace H := ca_ H
                    have c37b0 := decide_eq_true c37
                    clear c37
                    have c38 := cp_ H
                    replace H := ca_ H
                    have c38b0 := decide_eq_true c38
                    clear c38
                    have c39 := cp_ H
                    replace H := ca_ H
                    have c39b0 := decide_eq_true c39
                    clear c39
                    obtain ⟨y174, hy174⟩ : ∃ y_ : List Int, y_ = (([rd l0_0 (rd x7_3 x8_3), rd l0_1 (rd x7_3 x8_3)] : List Int)) := ⟨_, rfl⟩
                    replace H : (impl_NamesFrom.l2 k3 x5_3 x7_3 x8_3 y174 (y174.length : Int) 0 l0_0 l0_1) = some r := by first | (rw [hy174]; exact H) | exact H
                    have Ny174 := Aside0.mk hy174
                    clear hy174
                    have H' := Aside0.mk H
                    clear H
                    obtain ⟨Ao40, co40, eo40⟩ := Kd.R_slice HO_7.out
                    subst eo40
                    try go_wp2
                    replace HO_5 := Aside0.mk (Kd.R_drew HO_5.out)
                    replace HO_7 := Aside0.mk (Kd.R_drew HO_7.out)
                    replace BK160 := Aside0.mk (blk_drew BK160.out)
                    replace HB := Aside0.mk (below_drew1 HB.out)
                    have p170 : 0 ≤ (x8_3 : Int) := of_decide_eq_true qe_
                    have q170 : x8_3 < (x7_3.length : Int) := of_decide_eq_true qe_
                    obtain ⟨ad170, e170, hx170_0⟩ := Kd.at_int (Kd.R_reads' HO_7.out).2.2 x8_3 p170 q170
                    cases e170
                    replace p170 := eq_true p170
                    replace q170 := eq_true q170
                    have p171 : 0 ≤ ((rd x7_3 x8_3) : Int) := of_decide_eq_true qe_
                    have q171 : (rd x7_3 x8_3) < (l0_0.length : Int) := of_decide_eq_true qe_
                    obtain ⟨ad171, e171, hx171_0⟩ := Kd.at_int HR0_0.out (rd x7_3 x8_3) p171 q171
                    have hw171_0 := hx171_0
                    cases e171
                    replace hx171_0 := (HB.out.cell (World.block_lt_of_cell? w _ hx171_0)).trans hx171_0
                    replace p171 := eq_true p171
                    replace q171 := eq_true q171
                    have p172 : 0 ≤ (x8_3 : Int) := of_decide_eq_true qe_
                    have q172 : x8_3 < (x7_3.length : Int) := of_decide_eq_true qe_
                    obtain ⟨ad172, e172, hx172_0⟩ := Kd.at_int (Kd.R_reads' HO_7.out).2.2 x8_3 p172 q172
                    obtain rfl : ad170 = ad172 := (by injection e172)
                    replace p172 := eq_true p172
                    replace q172 := eq_true q172
                    have p173 : 0 ≤ ((rd x7_3 x8_3) : Int) := of_decide_eq_true qe_
                    have q173 : (rd x7_3 x8_3) < (l0_1.length : Int) := of_decide_eq_true qe_
                    obtain ⟨ad173, e173, hx173_0⟩ := Kd.at_int HR0_1.out (rd x7_3 x8_3) p173 q173
                    have hw173_0 := hx173_0
                    cases e173
                    replace hx173_0 := (HB.out.cell (World.block_lt_of_cell? w _ hx173_0)).trans hx173_0
                    replace p173 := eq_true p173
                    replace q173 := eq_true q173
                    refine start_ (n := 19) (S := fun w' => w'.cell? ⟨gb160, 0, none⟩ = some (.slice (some ad171) l0_0.length c0_0) ∧ w'.cell? ⟨gb160, 1, none⟩ = some (.slice (some ad173) l0_1.length c0_1) ∧ w'.cell? (ad170.add (x8_3).toNat) = some (.int .i64 (rd x7_3 x8_3)) ∧ w'.cell? (ad171.add ((rd x7_3 x8_3)).toNat) = some (.int .i64 (rd l0_0 (rd x7_3 x8_3))) ∧ w'.cell? (ad170.add (x8_3).toNat) = some (.int .i64 (rd x7_3 x8_3)) ∧ w'.cell? (ad173.add ((rd x7_3 x8_3)).toNat) = some (.int .i64 (rd l0_1 (rd x7_3 x8_3)))) (ds := []) (bl_ 19 0) (by kernel_rfl) rfl (by kernel_rfl) ⟨cz0_ BK160, cz1_ BK160, hx170_0, ((HB.out.cell (World.block_lt_of_cell? w _ hw171_0)).trans hw171_0), hx172_0, ((HB.out.cell (World.block_lt_of_cell? w _ hw173_0)).trans hw173_0)⟩ (fun hHeld => ?_); refine with_tabW impl_NamesFrom.tab14 impl_NamesFrom.bits14 (fun HT_ HW_ => ?_)
                    generalize wr.drew = w41 at HO_5 HO_7 BK160 HB hx170_0 hx171_0 hx172_0 hx173_0 hHeld ⊢
                    refine pu_ 0 (some 49) (bl_ 19 1) HT_ ?_
                    refine pu_ 2 (some 51) (bl_ 19 5) HT_ ?_
                    refine pu_ 3 (some 52) (bl_ 19 13) HT_ ?_
                    refine pu_ 4 (some 53) (bl_ 19 29) HT_ ?_
                    refine pu_ 8 (some 57) (bl_ 19 285) HT_ ?_
                    refine pu_ 10 (some 59) (bl_ 19 1309) HT_ ?_
                    refine pu_ 11 (some 60) (bl_ 19 3357) HT_ ?_
                    refine pu_ 12 (some 61) (bl_ 19 7453) HT_ ?_
                    refine pu_ 18 (some 67) (bl_ 19 269597) HT_ ?_
                    refine ta_ 1 (some 50) (bl_ 19 269599) HT_ HW_ hHeld ?_
                    refine ta_ 5 (some 54) (bl_ 19 269631) HT_ HW_ hHeld ?_
                    refine pu_ 6 (some 55) (bl_ 19 269695) HT_ ?_
                    refine ta_ 7 (some 56) (bl_ 19 269823) HT_ HW_ hHeld ?_
                    refine ta_ 9 (some 58) (bl_ 19 270335) HT_ HW_ hHeld ?_
                    refine ta_ 13 (some 62) (bl_ 19 278527) HT_ HW_ hHeld ?_
                    refine pu_ 14 (some 63) (bl_ 19 294911) HT_ ?_
                    refine ta_ 15 (some 64) (bl_ 19 327679) HT_ HW_ hHeld ?_
                    refine on_ 16 (some 65) (bl_ 19 393215) HT_ (fun K hK => ?_)
                    refine Kd.R_lit_step (Kd.int .i64) _ 3 ?hg (N := 65) ?hd (xs := ([rd l0_0 (rd x7_3 x8_3), rd l0_1 (rd x7_3 x8_3)] : List Int)) (inner := [.int .i64 (rd l0_0 (rd x7_3 x8_3)), .int .i64 (rd l0_1 (rd x7_3 x8_3))]) (ok := fun _ => True) (okp := fun _ => True) ?hr ?hp (fun _ hk => hk) trivial (Below.refl _ _) (Nat.le_refl _) (by simp) ?_; (case hd => rfl); (case hg => rfl); (case hr => first | (go_simp; done) | (go_simp; rfl)); (case hp => exact (Reps.one (show Kd.M (Kd.int .i64) _ _ _ (rd l0_0 (rd x7_3 x8_3)) [.int .i64 (rd l0_0 (rd x7_3 x8_3))] from rfl) (Reps.one (show Kd.M (Kd.int .i64) _ _ _ (rd l0_1 (rd x7_3 x8_3)) [.int .i64 (rd l0_1 (rd x7_3 x8_3))] from rfl) (Reps.none _ _))))
                    intro v175 w42 ho43 hb hg_ hnew_
                    have HS2_ := (hb.cell (World.block_lt_of_cell? _ _ (hHeld.2.2.1))).trans (hHeld.2.2.1)
                    have HS4_ := (hb.cell (World.block_lt_of_cell? _ _ (hHeld.2.2.2.2.1))).trans (hHeld.2.2.2.2.1)
                    clear hg_ hnew_
                    (first | rw [← Ny174.out] at ho43 | (simp only [Int.reduceToNat] at ho43; rw [← Ny174.out] at ho43))
                    have HO176 := Aside0.mk (Kd.R_lower (Kd.R_new' (Kd.R_new' ho43 (Kd.R_lt (rr_ HO_5))) (Kd.R_lt (rr_ HO_7))) (below_size hB_))
                    replace HO_5 := Aside0.mk (Kd.R_elder' (rr_ HO_5) (Kd.R_base ho43) hb)
                    replace HO_7 := Aside0.mk (Kd.R_elder' (rr_ HO_7) (Kd.R_base ho43) hb)
                    replace BK160 := bb_ BK160 hb
                    replace HB := b1_ hb
                    clear hb ho43
                    obtain ⟨Ao44, co44, eo44⟩ := Kd.R_slice HO176.out
                    (first | subst eo44 | (injection eo44 with f1_ f2_ f3_; have f4_ := f1_.symm; have f5_ := f3_.symm; clear f1_ f2_ f3_; subst f4_; subst f5_))
                    refine hK.out _ _ ⟨cz0_ BK160, cz1_ BK160, HS2_, ((HB.out.cell (World.block_lt_of_cell? w _ hw171_0)).trans hw171_0), HS4_, ((HB.out.cell (World.block_lt_of_cell? w _ hw173_0)).trans hw173_0)⟩ (fun hHeld => ?_)
                    clear hK K
                    refine no_ (some 65) ?_
                    refine pu_ 17 (some 66) (bl_ 19 524287) HT_ ?_
                    refine done_ (done_of HT_.out (by kernel_rfl)) ?_
                    try go_wp2
                    go_loopg [7, 67] k3 (fun kq v7 v67 w' => ∃ (x5_4 : List Int) (x7_4 : List Int) (x67_4 : Int), v67 = .int .i64 x67_4 ∧ Aside0 (impl_NamesFrom.l2 kq x5_4 x7_4 x8_3 y174 (y174.length : Int) x67_4 l0_0 l0_1 = some r) ∧ Aside0 (kq ≤ k3) ∧ Aside0 (Kd.R (Kd.int .i64) 3 w' w.heap.size (fun k_ => some k_ ≠ (v7 : Value).ownBlock ∧ some k_ ≠ ((.slice Ao44 y174.length co44) : Value).ownBlock) (.slice (some ⟨go30, 0, none⟩) x5_3.length co21) x5_4) ∧ Aside0 (Kd.R (Kd.int .i64) 3 w' w.heap.size (fun k_ => some k_ ≠ ((.slice (some ⟨go30, 0, none⟩) x5_3.length co21) : Value).ownBlock ∧ some k_ ≠ ((.slice Ao44 y174.length co44) : Value).ownBlock) v7 x7_4) ∧ Aside0 (Kd.R (Kd.int .i64) 3 w' w.heap.size (fun k_ => some k_ ≠ ((.slice (some ⟨go30, 0, none⟩) x5_3.length co21) : Value).ownBlock ∧ some k_ ≠ (v7 : Value).ownBlock) (.slice Ao44 y174.length co44) y174) ∧ Aside0 (w'.heap[gb160]? = some (.cells #[(.slice (some ad171) l0_0.length c0_0), (.slice (some ad173) l0_1.length c0_1)] 33 (0, 0))) ∧ Aside0 (Below w.heap.size w w'))
                    case atStart => exact ⟨(x5_3), (x7_3), (0), qc_, H', ⟨Nat.le_refl _⟩, ⟨by (try simp only [hl5_2]); (try simp only [hl5_3]); (with_reducible repeat (first | apply Kd.R_alloc | apply Kd.R_drewN | apply Kd.R_drew)); exact HO_5.out⟩, ⟨by (try simp only [hl5_2]); (try simp only [hl5_3]); (with_reducible repeat (first | apply Kd.R_alloc | apply Kd.R_drewN | apply Kd.R_drew)); exact HO_7.out⟩, ⟨by (try simp only [hl5_2]); (try simp only [hl5_3]); (with_reducible repeat (first | apply Kd.R_alloc | apply Kd.R_drewN | apply Kd.R_drew)); exact Kd.R_mono HO176.out (fun _ hk => ⟨hk.1.2, hk.2⟩)⟩, ⟨by (try simp only [hl5_2]); (try simp only [hl5_3]); (with_reducible repeat (first | refine blk_drewN ?_ _ | refine blk_drew ?_ | refine blk_alloc ?_ _)); exact BK160.out⟩, ⟨hB_⟩⟩
                    case round =>
                      clear H'
                      obtain ⟨x5_4, x7_4, x67_4, rfl, HA, HK4, HO_5, HO_7, HO_65, BK160, HB⟩ := hrel
                      have hl5_4 := (Kd.R_reads' HO_5.out).1
                      rw [hl5_4] at HO_5
                      (try simp only [hl5_4])
                      (try simp only [hl5_4] at BK160)
                      (try simp only [hl5_4] at HO_7)
                      (try simp only [hl5_4] at HO_65)
                      cases gk with
                      | zero => exact absurd HA.out (by simp [impl_NamesFrom.l2])
                      | succ k4 =>
                        have H := HA.out
                        clear HA
                        simp only [impl_NamesFrom.l2] at H
                        by_cases c45 : x67_4 < (y174.length : Int)
                        · rw [if_pos c45] at H
                          have c45b0 := decide_eq_true c45
                          clear c45
                          have c46 := cp_ H
                          replace H := ca_ H
                          have c46b0 := decide_eq_true c46
                          clear c46
                          have c47 := cp_ H
                          replace H := ca_ H
                          have c47b0 := decide_eq_true c47
                          clear c47
                          have c48 := cp_ H
                          replace H := ca_ H
                          have c48b0 := decide_eq_true c48
                          clear c48
                          have c49 := cp_ H
                          replace H := ca_ H
                          have c49b0 := decide_eq_true c49
                          clear c49
                          by_cases c50 : (rd x5_4 (rd y174 x67_4)) < 0
                          · rw [if_pos c50] at H
                            have c50b0 := decide_eq_true c50
                            clear c50
                            obtain ⟨y179, hy179⟩ : ∃ y_ : List Int, y_ = (x5_4.set ((rd y174 x67_4) : Int).toNat (x7_4.length : Int)) := ⟨_, rfl⟩
                            replace H : (if x7_4.length < 17592186044416 then (impl_NamesFrom.l2 k4 y179 (x7_4 ++ [rd y174 x67_4]) x8_3 y174 (y174.length : Int) (wrap64 (x67_4 + 1)) l0_0 l0_1) else (none)) = some r := by first | (rw [hy179]; exact H) | exact H
                            have Ny179 := Aside0.mk hy179
                            clear hy179
                            have c52 := cp_ H
                            replace H := ca_ H
                            have LMc52 := Aside0.mk c52
                            clear c52
                            obtain ⟨y180, hy180⟩ : ∃ y_ : List Int, y_ = (x7_4 ++ [rd y174 x67_4]) := ⟨_, rfl⟩
                            replace H : (impl_NamesFrom.l2 k4 y179 y180 x8_3 y174 (y174.length : Int) (wrap64 (x67_4 + 1)) l0_0 l0_1) = some r := by first | (rw [hy180]; exact H) | exact H
                            have Ny180 := Aside0.mk hy180
                            clear hy180
                            have H' := Aside0.mk H
                            clear H
                            have p177 : 0 ≤ (x67_4 : Int) := of_decide_eq_true qe_
                            have q177 : x67_4 < (y174.length : Int) := of_decide_eq_true qe_
                            obtain ⟨ad177, e177, hx177_0⟩ := Kd.at_int (Kd.R_reads' HO_65.out).2.2 x67_4 p177 q177
                            cases e177
                            replace p177 := eq_true p177
                            replace q177 := eq_true q177
                            have p178 : 0 ≤ ((rd y174 x67_4) : Int) := of_decide_eq_true qe_
                            have q178 : (rd y174 x67_4) < (x5_4.length : Int) := of_decide_eq_true qe_
                            obtain ⟨ad178, e178, hx178_0⟩ := Kd.at_int (Kd.R_reads' HO_5.out).2.2 (rd y174 x67_4) p178 q178
                            obtain rfl : (⟨go30, 0, none⟩ : Addr) = ad178 := (by injection e178)
                            (first | simp only [add_plain] at hx178_0 | simp only [add_at] at hx178_0 | simp only [Addr.add, Nat.zero_add] at hx178_0 | skip)
                            replace p178 := eq_true p178
                            replace q178 := eq_true q178
                            obtain ⟨Ao53, co53, eo53⟩ := Kd.R_slice HO_7.out
                            subst eo53
                            have p51 : 0 ≤ ((rd y174 x67_4) : Int) := of_decide_eq_true qe_
                            have q51 : ((rd y174 x67_4) : Int) < ((x5_4.length : Int) : Int) := of_decide_eq_true qe_
                            obtain ⟨hx51_0, hf51_0⟩ := Kd.R_celln 0 HO_5.out ((rd y174 x67_4) : Int) p51 q51
                            replace p51 := eq_true p51
                            replace q51 := eq_true q51
                            have HP54 := Kd.R_putg HO_5.out ((rd y174 x67_4) : Int) (x7_4.length : Int)
                            go_wp2_with (first | ((with_reducible refine gate_store (t := 3) (p := 80) rfl ?_); refine store_event (t := 3) (p := 80) (v := ?vo_w55) (w1 := (wr.setCell ⟨go30, ((rd y174 x67_4) : Int).toNat, none⟩ (.int .i64 (x7_4.length : Int)))) ?hg ?ho ?hn ?hr ?_; (case ho => rfl); (case hg => rfl); (case hn => rfl); (case hr => first | (go_simp; done) | (go_simp; rfl)); intro w55 hw; have hg : wr.grownBy w55 (some go30) := (by rw [hw]; exact HP54.2); have hp_ : Kd.R (Kd.int .i64) 3 w55 w.heap.size (fun k_ => some k_ ≠ (.slice Ao53 x7_4.length co53 : Value).ownBlock ∧ some k_ ≠ (.slice (some ad177) y174.length co44 : Value).ownBlock) (.slice (some ⟨go30, 0, none⟩) x5_4.length co21) y179 := (by rw [hw, Ny179.out]; exact HP54.1); clear HP54; replace HO_7 := Aside0.mk (Kd.R_after (v := (.slice (some ⟨go30, 0, none⟩) x5_4.length co21)) (v1 := (.slice (some ⟨go30, 0, none⟩) x5_4.length co21)) (ok := (fun k_ => some k_ ≠ (.slice (some ad177) y174.length co44 : Value).ownBlock)) (rw_ (Kd.R_mono HO_7.out (fun _ hk => ⟨hk.2, hk.1⟩))) hg (.inl rfl)); replace HO_65 := Aside0.mk (Kd.R_after (v := (.slice (some ⟨go30, 0, none⟩) x5_4.length co21)) (v1 := (.slice (some ⟨go30, 0, none⟩) x5_4.length co21)) (ok := (fun k_ => some k_ ≠ (.slice Ao53 x7_4.length co53 : Value).ownBlock)) (rw_ (Kd.R_mono HO_65.out (fun _ hk => ⟨hk.2, hk.1⟩))) hg (.inl rfl)); replace BK160 := Aside0.mk (blk_grown (kk_ BK160) hg (Kd.R_ne HO_5.out BK160.out (by decide))); replace HO_5 := Aside0.mk (hp_); replace HB := Aside0.mk ((by rw [hw]; exact below_set (HB.out) GB30.out : Below w.heap.size w w55)); clear hg hw hp_) | ((with_reducible refine gate_builtin (b := .append) (xs := #[.tmp 81, .tmp 83]) rfl ?_); (try (refine gate_guard (by rfl) ?_; dsimp only)); at_builtin; refine Kd.R_append (Kd.int .i64) (w0 := w) w.heap.size rfl (.tmp 81) (.tmp 83) 23 3 (.int .i64 0) 8 rfl Try.underlying23 info3 rfl (by decide) (by omega) (.slice Ao53 x7_4.length co53) x7_4 (rd y174 x67_4) [.int .i64 (rd y174 x67_4)] (fun k_ => some k_ ≠ (.slice (some ⟨go30, 0, none⟩) x5_4.length co21 : Value).ownBlock ∧ some k_ ≠ (.slice (some ad177) y174.length co44 : Value).ownBlock) (fun _ => False) rfl rfl ?aP (fun _ hk => hk.elim) ?aF ?aO ?aB ?aS ?aL ?_; (case aP => exact rfl); (case aB => exact hB_); (case aF => exact (fun k_ hk => ⟨Kd.fresh' (Kd.R_lt (rr_ HO_5)) k_ hk, Kd.fresh' (Kd.R_lt (rr_ HO_65)) k_ hk⟩)); (case aO => exact (rw_ (Kd.R_mono HO_7.out (fun _ hk => ⟨hk.2, hk.1⟩)))); (case aS => exact (below_size hB_)); (case aL => have := LMc52.out; omega); intro v181 w56 ho hb hg hat; rw [← Ny180.out] at ho; replace HO_5 := Aside0.mk (Kd.R_after (ok := (fun k_ => some k_ ≠ (.slice (some ad177) y174.length co44 : Value).ownBlock)) (rw_ (Kd.R_mono HO_5.out (fun _ hk => ⟨hk.2, hk.1⟩))) hg hat); replace HO_65 := Aside0.mk (Kd.R_after (ok := (fun k_ => some k_ ≠ (.slice (some ⟨go30, 0, none⟩) x5_4.length co21 : Value).ownBlock)) (rw_ (Kd.R_mono HO_65.out (fun _ hk => ⟨hk.2, hk.1⟩))) hg hat); replace BK160 := Aside0.mk (blk_grown (kk_ BK160) hg (Kd.R_ne HO_7.out BK160.out (by decide))); replace HB := Aside0.mk hb; have HO182 := Aside0.mk ho; clear HO_7; clear ho hb hg hat))
                            (try simp only [← hl5_4])
                            go_roundg k4
                            case measure => have := HJ2.out; have := HK2.out; have := HK3.out; have := HK4.out; omega
                            case rel => exact ⟨(y179), (y180), (wrap64 (x67_4 + 1)), qc_, H', ⟨by have := HJ2.out; have := HK2.out; have := HK3.out; have := HK4.out; omega⟩, ⟨by (try simp only [hl5_2]); (try simp only [hl5_3]); (try simp only [hl5_4]); (with_reducible repeat (first | apply Kd.R_alloc | apply Kd.R_drewN | apply Kd.R_drew)); exact Kd.R_mono HO_5.out (fun _ hk => ⟨hk.2, hk.1⟩)⟩, ⟨by (try simp only [hl5_2]); (try simp only [hl5_3]); (try simp only [hl5_4]); (with_reducible repeat (first | apply Kd.R_alloc | apply Kd.R_drewN | apply Kd.R_drew)); exact HO182.out⟩, ⟨by (try simp only [hl5_2]); (try simp only [hl5_3]); (try simp only [hl5_4]); (with_reducible repeat (first | apply Kd.R_alloc | apply Kd.R_drewN | apply Kd.R_drew)); exact HO_65.out⟩, ⟨by (try simp only [hl5_2]); (try simp only [hl5_3]); (try simp only [hl5_4]); (with_reducible repeat (first | refine blk_drewN ?_ _ | refine blk_drew ?_ | refine blk_alloc ?_ _)); exact BK160.out⟩, ⟨hB_⟩⟩
                          · rw [if_neg c50] at H
                            have c50b0 := decide_eq_false c50
                            clear c50
                            have H' := Aside0.mk H
                            clear H
                            have p177 : 0 ≤ (x67_4 : Int) := of_decide_eq_true qe_
                            have q177 : x67_4 < (y174.length : Int) := of_decide_eq_true qe_
                            obtain ⟨ad177, e177, hx177_0⟩ := Kd.at_int (Kd.R_reads' HO_65.out).2.2 x67_4 p177 q177
                            cases e177
                            replace p177 := eq_true p177
                            replace q177 := eq_true q177
                            have p178 : 0 ≤ ((rd y174 x67_4) : Int) := of_decide_eq_true qe_
                            have q178 : (rd y174 x67_4) < (x5_4.length : Int) := of_decide_eq_true qe_
                            obtain ⟨ad178, e178, hx178_0⟩ := Kd.at_int (Kd.R_reads' HO_5.out).2.2 (rd y174 x67_4) p178 q178
                            obtain rfl : (⟨go30, 0, none⟩ : Addr) = ad178 := (by injection e178)
                            (first | simp only [add_plain] at hx178_0 | simp only [add_at] at hx178_0 | simp only [Addr.add, Nat.zero_add] at hx178_0 | skip)
                            replace p178 := eq_true p178
                            replace q178 := eq_true q178
                            go_wp2
                            (try simp only [← hl5_4])
                            go_roundg k4
                            case measure => have := HJ2.out; have := HK2.out; have := HK3.out; have := HK4.out; omega
                            case rel => exact ⟨(x5_4), (x7_4), (wrap64 (x67_4 + 1)), qc_, H', ⟨by have := HJ2.out; have := HK2.out; have := HK3.out; have := HK4.out; omega⟩, ⟨by (try simp only [hl5_2]); (try simp only [hl5_3]); (try simp only [hl5_4]); (with_reducible repeat (first | apply Kd.R_alloc | apply Kd.R_drewN | apply Kd.R_drew)); exact HO_5.out⟩, ⟨by (try simp only [hl5_2]); (try simp only [hl5_3]); (try simp only [hl5_4]); (with_reducible repeat (first | apply Kd.R_alloc | apply Kd.R_drewN | apply Kd.R_drew)); exact HO_7.out⟩, ⟨by (try simp only [hl5_2]); (try simp only [hl5_3]); (try simp only [hl5_4]); (with_reducible repeat (first | apply Kd.R_alloc | apply Kd.R_drewN | apply Kd.R_drew)); exact HO_65.out⟩, ⟨by (try simp only [hl5_2]); (try simp only [hl5_3]); (try simp only [hl5_4]); (with_reducible repeat (first | refine blk_drewN ?_ _ | refine blk_drew ?_ | refine blk_alloc ?_ _)); exact BK160.out⟩, ⟨hB_⟩⟩
                        · rw [if_neg c45] at H
                          have c45b0 := decide_eq_false c45
                          (try simp only [hl5_4] at c45b0)
                          clear c45
                          have H' := Aside0.mk H
                          clear H
                          go_wp2
                          (try simp only [← hl5_3, ← hl5_4])
                          go_roundg k4
                          case measure => have := HJ2.out; have := HK2.out; have := HK3.out; have := HK4.out; omega
                          case rel => exact ⟨(x5_4), (x7_4), (wrap64 (x8_3 + 1)), qc_, H', ⟨by have := HJ2.out; have := HK2.out; have := HK3.out; have := HK4.out; omega⟩, ⟨by (try simp only [hl5_2]); (try simp only [hl5_3]); (try simp only [hl5_4]); (with_reducible repeat (first | apply Kd.R_alloc | apply Kd.R_drewN | apply Kd.R_drew)); exact Kd.R_mono HO_5.out (fun _ hk => hk.1)⟩, ⟨by (try simp only [hl5_2]); (try simp only [hl5_3]); (try simp only [hl5_4]); (with_reducible repeat (first | apply Kd.R_alloc | apply Kd.R_drewN | apply Kd.R_drew)); exact Kd.R_mono HO_7.out (fun _ hk => hk.1)⟩, ⟨by (try simp only [hl5_2]); (try simp only [hl5_3]); (try simp only [hl5_4]); (with_reducible repeat (first | refine blk_drewN ?_ _ | refine blk_drew ?_ | refine blk_alloc ?_ _)); exact BK160.out⟩, ⟨hB_⟩⟩
                  · rw [if_neg c35] at H
                    have c35b0 := decide_eq_false c35
                    clear c35
                    obtain rfl := Option.some.inj H
                    obtain ⟨Ao57, co57, eo57⟩ := Kd.R_slice HO_7.out
                    subst eo57
                    go_wp2
                    go_ret
                    exact ⟨_, qb_, (rw_ (Kd.R_mono HO_5.out (fun _ hk => trivial))), hB_⟩
end Go.Proofs.Ytoijcallajegfaa.A
end
section
namespace Go.Proofs.Ytoijcallajegfaa.A
open Go.RowKit Go.Proofs.YtoijcallajegfaaW.PrintWords Go.Proofs.YtoijcallajegfaaW.PrintLast Go.Proofs.YtoijcallajegfaaW.PrintMore
attribute [local go_sem] max2_int min2_int max_two min_two max_three min_three max_four min_four
set_option linter.unusedVariables false
set_option linter.unusedSimpArgs false
def impl_namedFrom.l0 : Nat → List (S33) → Int → List Int → List Int → Option ((List (S33)))
  | 0, _, _, _, _ => none
  | k + 1, x3, x4, x184000, x184001 => (impl_CountSquares.f k x184000 x184001).bind fun t187 => (if x4 < t187 then ((impl_NamesFrom.f k x184000 x184001 x4).bind fun t188 => ((impl_RenameSurface.f k x184000 x184001 t188).bind fun bt191 => (if x3.length < 2932031007402 then (impl_namedFrom.l0 k (x3 ++ [(⟨bt191.1, bt191.2.1⟩ : S33)]) (wrap64 (x4 + 1)) x184000 x184001) else (none)))) else (some x3))
def impl_namedFrom.f (k : Nat) (l0_0 : List Int) (l0_1 : List Int) : Option ((List (S33))) := impl_namedFrom.l0 k (([] : List (S33))) 0 l0_0 l0_1
theorem impl_namedFrom.mono_l : ∀ k, (∀ y0 y1 y2 y3, LeO (impl_namedFrom.l0 k y0 y1 y2 y3) (impl_namedFrom.l0 (k + 1) y0 y1 y2 y3))
  | 0 => fun _ _ _ _ r h => by simp [impl_namedFrom.l0] at h
  | k + 1 => by
    have ih0 := impl_namedFrom.mono_l k
    · intro y0 y1 y2 y3
      unfold impl_namedFrom.l0
      repeat' first|exact ih0 _ _ _ _|exact impl_CountSquares.mono _ _ _|exact impl_NamesFrom.mono _ _ _ _|exact impl_RenameSurface.mono _ _ _ _|exact lo_|refine LeO.ite ?_ ?_|refine LeO.bind ?_ (fun _ => ?_)
theorem impl_namedFrom.mono : ∀ a0 a1 k, LeO (impl_namedFrom.f k a0 a1) (impl_namedFrom.f (k + 1) a0 a1) := by
  intro a0 a1 k
  have ih0 := impl_namedFrom.mono_l k
  unfold impl_namedFrom.f
  repeat' first|exact ih0 _ _ _ _|exact impl_CountSquares.mono _ _ _|exact impl_NamesFrom.mono _ _ _ _|exact impl_RenameSurface.mono _ _ _ _|exact lo_|refine LeO.ite ?_ ?_|refine LeO.bind ?_ (fun _ => ?_)
def impl_namedFrom.T5 : Bool × List (List Nat × List Nat) := (true, [([], []), ([], []), ([], []), ([1, 2], [1, 2]), ([0, 3, 3], [0, 3]), ([4], [4]), ([5], [5]), ([5], [5]), ([], []), ([8, 6, 4, 0, 1, 2, 3, 4, 5, 6, 8], [6, 8]), ([7, 9, 0, 1, 2, 3, 4, 5, 6, 7, 8, 9], [7])])
def impl_namedFrom.B5 : List Nat := [0, 0, 0, 6, 15, 31, 63, 63, 0, 383, 1023]
theorem impl_namedFrom.tab5 : rtab .any (opsOf Try.f58 5) = impl_namedFrom.T5 := by kernel_rfl
theorem impl_namedFrom.bits5 : waitsOk impl_namedFrom.T5.2 impl_namedFrom.B5 = true := by kernel_rfl
set_option maxHeartbeats 8000000 in
set_option maxRecDepth 100000 in
theorem impl_namedFrom.calls (k : Nat) (A0_0 : Option Addr) (c0_0 : Nat) (l0_0 : List Int) (A0_1 : Option Addr) (c0_1 : Nat) (l0_1 : List Int) (r : List (S33)) (w : World) (hr0_0 : Kd.C (Kd.int .i64) w A0_0 l0_0.length l0_0) (hc0_0 : l0_0.length ≤ c0_0) (hr0_1 : Kd.C (Kd.int .i64) w A0_1 l0_1.length l0_1) (hc0_1 : l0_1.length ≤ c0_1) (h : impl_namedFrom.f k l0_0 l0_1 = some r) :
    Calls Try.prog 58 #[.agg #[.slice A0_0 l0_0.length c0_0, .slice A0_1 l0_1.length c0_1]] w fun e w' => ∃ v0_ : Value, e = .returned (v0_) ∧ Kd.S k33 33 w' w.heap.size (fun _ => True) v0_ r ∧ Below w.heap.size w w' := by
  have hu33 := Try.underlying33
  have HR0_0 := Aside0.mk hr0_0
  have HC0_0 := Aside0.mk hc0_0
  clear hr0_0 hc0_0
  have HR0_1 := Aside0.mk hr0_1
  have HC0_1 := Aside0.mk hc0_1
  clear hr0_1 hc0_1
  have HB := Aside0.mk (Below.refl w.heap.size w)
  have H := h
  unfold impl_namedFrom.f at H
  clear h
  obtain ⟨y184, hy184⟩ : ∃ y_ : List (S33), y_ = (([] : List (S33))) := ⟨_, rfl⟩
  replace H : (impl_namedFrom.l0 k y184 0 l0_0 l0_1) = some r := by first | (rw [hy184]; exact H) | exact H
  have Ny184 := Aside0.mk hy184
  clear hy184
  have H' := Aside0.mk H
  clear H
  go_enter Try.func58, Try.ntmps58
  go_wp2_with (first | ((with_reducible refine gate_dst (N := 1) rfl ?_); refine bx_ 1 #[.slice A0_0 l0_0.length c0_0, .slice A0_1 l0_1.length c0_1] 33 ?_; intro gb183 hg w2 hbox hb; have BK183 := Aside0.mk hbox; have GW183 := gw_ w hg; have GE183 := GW183; replace HB := b1_ hb; clear hb hbox hg) | ((with_reducible refine gate_dst (N := 7) rfl ?_); refine Kd.S_lit k33 _ 33 ?hg (N := 7) ?hd (xs := ([] : List (S33))) (inner := []) (ok := fun _ => True) (okp := fun _ => True) ?hr ?hp (fun _ hk => hk) trivial (Below.refl _ _) (Nat.le_refl _) (by simp) ?_; (case hd => rfl); (case hg => rfl); (case hr => first | (go_simp; done) | (go_simp; rfl)); (case hp => exact (Reps.none _ _)); intro v185 w3 ho4 hb hg_ hnew_; clear hg_ hnew_; (first | rw [← Ny184.out] at ho4 | (simp only [Int.reduceToNat] at ho4; rw [← Ny184.out] at ho4)); have HO186 := Aside0.mk (Kd.S_lower (Kd.S_newB ho4 (kk_ BK183)) (below_size hB_)); replace BK183 := bb_ BK183 hb; replace HB := b1_ hb; clear hb ho4))
  go_loopg [3, 4] k (fun kq v3 v4 w' => ∃ (x3_1 : List (S33)) (x4_1 : Int), v4 = .int .i64 x4_1 ∧ Aside0 (impl_namedFrom.l0 kq x3_1 x4_1 l0_0 l0_1 = some r) ∧ Aside0 (kq ≤ k) ∧ Aside0 (Kd.S k33 33 w' w.heap.size (fun k_ => k_ ≠ gb183) v3 x3_1) ∧ Aside0 (w'.heap[gb183]? = some (.cells #[(.slice A0_0 l0_0.length c0_0), (.slice A0_1 l0_1.length c0_1)] 33 (0, 0))) ∧ Aside0 (Below w.heap.size w w'))
  case atStart => exact ⟨(y184), (0), qc_, H', ⟨Nat.le_refl _⟩, ⟨(sw_ (Kd.S_mono HO186.out (fun _ hk => hk.2)))⟩, ⟨(kk_ BK183)⟩, ⟨hB_⟩⟩
  case round =>
    clear H'
    obtain ⟨x3_1, x4_1, rfl, HA, HK1, HO_3, BK183, HB⟩ := hrel
    cases gk with
    | zero => exact absurd HA.out (by simp [impl_namedFrom.l0])
    | succ k1 =>
      have H := HA.out
      clear HA
      simp only [impl_namedFrom.l0] at H
      obtain ⟨t187, A5, H⟩ := bi_ H
      by_cases c6 : x4_1 < t187
      · rw [if_pos c6] at H
        have c6b0 := decide_eq_true c6
        clear c6
        obtain ⟨t188, A7, H⟩ := bi_ H
        obtain ⟨⟨t191, t194, t197⟩, A8, H⟩ := bi_ H
        try dsimp only at H
        have c9 := cp_ H
        replace H := ca_ H
        have LMc9 := Aside0.mk c9
        clear c9
        obtain ⟨y199, hy199⟩ : ∃ y_ : List (S33), y_ = (x3_1 ++ [(⟨t191, t194⟩ : S33)]) := ⟨_, rfl⟩
        replace H : (impl_namedFrom.l0 k1 y199 (wrap64 (x4_1 + 1)) l0_0 l0_1) = some r := by first | (rw [hy199]; exact H) | exact H
        have Ny199 := Aside0.mk hy199
        clear hy199
        have H' := Aside0.mk H
        clear H
        obtain ⟨hcz10_0, hcz10_1, hfz10_0, hfz10_1⟩ := c2_ BK183
        try go_wp2_with (first | ((with_reducible refine gate_callee (f := 23) rfl ?_); refine gL_ (some 10) Try.func23 #[.agg #[.slice A0_0 l0_0.length c0_0, .slice A0_1 l0_1.length c0_1]] rfl qa_ ?_; (with_reducible refine (impl_CountSquares.calls k1 _ _ l0_0 _ _ l0_1 t187 _ (cb_ HR0_0) HC0_0.out (cb_ HR0_1) HC0_1.out A5.out).mono ?_); rintro e w11 ⟨rfl, hb⟩; refine ⟨_, rfl, ?_⟩; replace HO_3 := sb_ HO_3 hb; replace BK183 := bb_ BK183 hb; replace HB := b1_ hb; clear hb))
        replace HO_3 := Aside0.mk (Kd.S_drew HO_3.out)
        replace BK183 := Aside0.mk (blk_drew BK183.out)
        replace HB := Aside0.mk (below_drew1 HB.out)
        refine start_ (n := 11) (S := fun w' => w'.cell? ⟨gb183, 0, none⟩ = some (.slice A0_0 l0_0.length c0_0) ∧ w'.cell? ⟨gb183, 1, none⟩ = some (.slice A0_1 l0_1.length c0_1)) (ds := []) (bl_ 11 0) (by kernel_rfl) rfl (by kernel_rfl) ⟨cz0_ BK183, cz1_ BK183⟩ (fun hHeld => ?_); refine with_tabW impl_namedFrom.tab5 impl_namedFrom.bits5 (fun HT_ HW_ => ?_)
        generalize w11.drew = w12 at HO_3 BK183 HB hHeld ⊢
        refine pu_ 2 (some 17) (bl_ 11 4) HT_ ?_
        refine ta_ 0 (some 15) (bl_ 11 5) HT_ HW_ hHeld ?_
        refine ta_ 1 (some 16) (bl_ 11 7) HT_ HW_ hHeld ?_
        refine join_ (σ := Value × Value × Value × Nat) 2 (bl_ 11 511) (fun s_ => [(18, s_.1), (19, .tuple #[.agg #[s_.2.1, s_.2.2.1], .bool t197]), (5, .pointer (some ⟨s_.2.2.2, 0, none⟩)), (14, .tuple #[.agg #[s_.2.1, s_.2.2.1], .bool t197]), (20, .agg #[s_.2.1, s_.2.2.1]), (21, .bool t197)]) (fun s_ w' => (w'.cell? ⟨gb183, 0, none⟩ = some (.slice A0_0 l0_0.length c0_0) ∧ w'.cell? ⟨gb183, 1, none⟩ = some (.slice A0_1 l0_1.length c0_1)) ∧ (Kd.R (Kd.int .i64) 3 w' w.heap.size (fun k_ => some k_ ≠ (s_.2.1 : Value).ownBlock ∧ some k_ ≠ (s_.2.2.1 : Value).ownBlock) s_.1 t188) ∧ (Kd.R (Kd.int .i64) 3 w' w.heap.size (fun k_ => some k_ ≠ (s_.1 : Value).ownBlock ∧ some k_ ≠ (s_.2.2.1 : Value).ownBlock) s_.2.1 t191) ∧ (Kd.R (Kd.int .i64) 3 w' w.heap.size (fun k_ => some k_ ≠ (s_.1 : Value).ownBlock ∧ some k_ ≠ (s_.2.1 : Value).ownBlock) s_.2.2.1 t194) ∧ (Kd.S k33 33 w' w.heap.size (fun k_ => some k_ ≠ (s_.1 : Value).ownBlock ∧ some k_ ≠ (s_.2.1 : Value).ownBlock ∧ some k_ ≠ (s_.2.2.1 : Value).ownBlock ∧ k_ ≠ gb183 ∧ k_ ≠ s_.2.2.2) u3 x3_1) ∧ (w'.heap[gb183]? = some (.cells #[.slice A0_0 l0_0.length c0_0, .slice A0_1 l0_1.length c0_1] 33 (0, 0))) ∧ (w'.heap[s_.2.2.2]? = some (.cells #[.slice none 0 0, .slice none 0 0] 33 (0, 0))) ∧ (w.heap.size ≤ s_.2.2.2) ∧ (w.heap.size ≤ s_.2.2.2) ∧ (gb183 ≠ s_.2.2.2) ∧ (s_.2.2.2 ≠ gb183) ∧ (Below w.heap.size w w')) ?_ ?_
        rotate_left
        · intro hCont
          refine two_ (i := 3) (j := 8) (Ni := some 18) (Nj := some 5) (bl_ 11 15) (bl_ 11 263) rfl rfl rfl rfl (two_of HT_.out (by kernel_rfl)) (by decide) (by decide) (fun K hK => ?_) (fun K hK => ?_)
          · skip
            refine gO_ Try.func108 #[.agg #[.slice A0_0 l0_0.length c0_0, .slice A0_1 l0_1.length c0_1], .int .i64 x4_1] (by rfl) rfl rfl qa_ ?_
            with_reducible refine (impl_NamesFrom.calls k1 _ _ l0_0 _ _ l0_1 x4_1 t188 _ (cb_ HR0_0) HC0_0.out (cb_ HR0_1) HC0_1.out A7.out).mono ?_
            rintro e w13 ⟨v189, rfl, ho0, hb⟩
            refine ⟨_, rfl, ?_⟩
            replace HO_3 := Aside0.mk (Kd.S_elder' (ss_ HO_3) (Kd.R_base ho0) hb)
            have HO190 := rl_ w ho0
            replace BK183 := bb_ BK183 hb
            replace HB := b1_ hb
            clear hb ho0
            obtain ⟨Ao14, co14, eo14⟩ := Kd.R_slice HO190.out
            (first | subst eo14 | (injection eo14 with f1_ f2_ f3_; have f4_ := f1_.symm; have f5_ := f3_.symm; clear f1_ f2_ f3_; subst f4_; subst f5_))
            refine hK.out _ _ ⟨cz0_ BK183, cz1_ BK183⟩ (fun hHeld => ?_)
            clear hK K
            refine no_ (some 18) ?_
            refine two_ (i := 4) (j := 8) (Ni := some 19) (Nj := some 5) (bl_ 11 31) (bl_ 11 271) rfl rfl rfl rfl (two_of HT_.out (by kernel_rfl)) (by decide) (by decide) (fun K hK => ?_) (fun K hK => ?_)
            · skip
              refine gO_ Try.func107 #[.agg #[.slice A0_0 l0_0.length c0_0, .slice A0_1 l0_1.length c0_1], .slice Ao14 t188.length co14] (by rfl) rfl rfl qa_ ?_
              with_reducible refine (impl_RenameSurface.calls k1 _ _ l0_0 _ _ l0_1 _ _ t188 t191 t194 t197 _ (cb_ HR0_0) HC0_0.out (cb_ HR0_1) HC0_1.out (cr_ HO190) ((Kd.R_reads' HO190.out).2.1) A8.out).mono ?_
              rintro e w15 ⟨v192, v195, rfl, ho0, ho1, hb⟩
              refine ⟨_, rfl, ?_⟩
              replace HO_3 := Aside0.mk (Kd.S_mono (Kd.S_told (Kd.S_told (Kd.S_old (ss_ HO_3) hb) (Kd.R_base ho0)) (Kd.R_base ho1)) (fun _ h_ => h_.1))
              have HO193 := Aside0.mk (Kd.R_lower (Kd.R_new' ho0 (Kd.R_lt (rr_ HO190))) (below_size hB_))
              have HO196 := Aside0.mk (Kd.R_lower (Kd.R_new' ho1 (Kd.R_lt (rr_ HO190))) (below_size hB_))
              replace HO190 := Aside0.mk (Kd.R_mono (Kd.R_told (Kd.R_told (Kd.R_old (rr_ HO190) hb) (Kd.R_base ho0)) (Kd.R_base ho1)) (fun _ h_ => h_.1))
              replace BK183 := bb_ BK183 hb
              replace HB := b1_ hb
              clear hb ho0 ho1
              refine hK.out _ _ ⟨cz0_ BK183, cz1_ BK183⟩ (fun hHeld => ?_)
              clear hK K
              refine no_ (some 19) ?_
              refine pu_ 5 (some 14) (bl_ 11 63) HT_ ?_
              refine pu_ 6 (some 20) (bl_ 11 127) HT_ ?_
              refine pu_ 7 (some 21) (bl_ 11 255) HT_ ?_
              refine on_ 8 (some 5) (bl_ 11 511) HT_ (fun K hK => ?_)
              refine box_step ?hg (N := 5) ?hd (cs := #[.slice none 0 0, .slice none 0 0]) (t := 33) ?hr ?_; (case hd => rfl); (case hg => rfl); (case hr => first | (go_simp; done) | (go_simp; rfl))
              intro gb198 hg w16 hbox hb
              replace HO_3 := Aside0.mk (Kd.S_below (Kd.S_elderB (ss_ HO_3) gb198 (Nat.le_of_eq hg.symm)) hb)
              replace HO190 := rb_ HO190 hb
              replace HO193 := rb_ HO193 hb
              replace HO196 := rb_ HO196 hb
              have BK198 := Aside0.mk hbox
              have GW198 := gw_ w hg
              have GE198 := GW198
              replace HB := b1_ hb
              have NB183_198 := gN_ BK183 hg
              have NB198_183 := gP_ BK183 hg
              replace BK183 := bb_ BK183 hb
              clear hb hbox hg
              refine hK.out _ _ ⟨cz0_ BK183, cz1_ BK183⟩ (fun hHeld => ?_)
              clear hK K
              refine no_ (some 5) ?_
              exact norm_ (by simp only [putAll, Act.put, List.setIfInBounds_toArray, List.set_cons_zero, List.set_cons_succ]) (hCont (.slice Ao14 t188.length co14, v192, v195, gb198) _ ⟨hHeld, (rw_ (Kd.R_mono HO190.out (fun _ hk => ⟨hk.1.2, hk.2⟩))), (rw_ (Kd.R_mono HO193.out (fun _ hk => ⟨hk.2, hk.1⟩))), (rw_ (Kd.R_mono HO196.out (fun _ hk => ⟨hk.2, hk.1⟩))), (sw_ (Kd.S_mono HO_3.out (fun _ hk => ⟨hk.1.1.1.2, ⟨hk.1.1.2, ⟨hk.1.2, ⟨hk.1.1.1.1, hk.2⟩⟩⟩⟩))), (kk_ BK183), (kk_ BK198), GW198.out, GE198.out, NB183_198.out, NB198_183.out, hB_⟩)
            · skip
              refine box_step ?hg (N := 5) ?hd (cs := #[.slice none 0 0, .slice none 0 0]) (t := 33) ?hr ?_; (case hd => rfl); (case hg => rfl); (case hr => first | (go_simp; done) | (go_simp; rfl))
              intro gb198 hg w14 hbox hb
              replace HO_3 := Aside0.mk (Kd.S_below (Kd.S_elderB (ss_ HO_3) gb198 (Nat.le_of_eq hg.symm)) hb)
              replace HO190 := rb_ HO190 hb
              have BK198 := Aside0.mk hbox
              have GW198 := gw_ w hg
              have GE198 := GW198
              replace HB := b1_ hb
              have NB183_198 := gN_ BK183 hg
              have NB198_183 := gP_ BK183 hg
              replace BK183 := bb_ BK183 hb
              clear hb hbox hg
              obtain ⟨Ao15, co15, eo15⟩ := Kd.R_slice HO190.out
              (first | subst eo15 | (injection eo15 with f1_ f2_ f3_; have f4_ := f1_.symm; have f5_ := f3_.symm; clear f1_ f2_ f3_; subst f4_; subst f5_))
              refine hK.out _ _ ⟨cz0_ BK183, cz1_ BK183⟩ (fun hHeld => ?_)
              clear hK K
              refine no_ (some 5) ?_
              refine on_ 4 (some 19) (bl_ 11 287) HT_ (fun K hK => ?_)
              refine gO_ Try.func107 #[.agg #[.slice A0_0 l0_0.length c0_0, .slice A0_1 l0_1.length c0_1], .slice Ao15 t188.length co15] (by rfl) rfl rfl qa_ ?_
              with_reducible refine (impl_RenameSurface.calls k1 _ _ l0_0 _ _ l0_1 _ _ t188 t191 t194 t197 _ (cb_ HR0_0) HC0_0.out (cb_ HR0_1) HC0_1.out (cr_ HO190) ((Kd.R_reads' HO190.out).2.1) A8.out).mono ?_
              rintro e w16 ⟨v192, v195, rfl, ho0, ho1, hb⟩
              refine ⟨_, rfl, ?_⟩
              replace HO_3 := Aside0.mk (Kd.S_mono (Kd.S_told (Kd.S_told (Kd.S_old (ss_ HO_3) hb) (Kd.R_base ho0)) (Kd.R_base ho1)) (fun _ h_ => h_.1))
              have HO193 := Aside0.mk (Kd.R_lower (Kd.R_new' ho0 (Kd.R_lt (rr_ HO190))) (below_size hB_))
              have HO196 := Aside0.mk (Kd.R_lower (Kd.R_new' ho1 (Kd.R_lt (rr_ HO190))) (below_size hB_))
              replace HO190 := Aside0.mk (Kd.R_mono (Kd.R_told (Kd.R_told (Kd.R_old (rr_ HO190) hb) (Kd.R_base ho0)) (Kd.R_base ho1)) (fun _ h_ => h_.1))
              replace BK183 := bb_ BK183 hb
              replace BK198 := bb_ BK198 hb
              replace HB := b1_ hb
              clear hb ho0 ho1
              refine hK.out _ _ ⟨cz0_ BK183, cz1_ BK183⟩ (fun hHeld => ?_)
              clear hK K
              refine no_ (some 19) ?_
              refine pu_ 5 (some 14) (bl_ 11 319) HT_ ?_
              refine pu_ 6 (some 20) (bl_ 11 383) HT_ ?_
              refine pu_ 7 (some 21) (bl_ 11 511) HT_ ?_
              exact norm_ (by simp only [putAll, Act.put, List.setIfInBounds_toArray, List.set_cons_zero, List.set_cons_succ]) (hCont (.slice Ao15 t188.length co15, v192, v195, gb198) _ ⟨hHeld, (rw_ (Kd.R_mono HO190.out (fun _ hk => ⟨hk.1.2, hk.2⟩))), (rw_ (Kd.R_mono HO193.out (fun _ hk => ⟨hk.2, hk.1⟩))), (rw_ (Kd.R_mono HO196.out (fun _ hk => ⟨hk.2, hk.1⟩))), (sw_ (Kd.S_mono HO_3.out (fun _ hk => ⟨hk.1.1.1.2, ⟨hk.1.2, ⟨hk.2, ⟨hk.1.1.1.1, hk.1.1.2⟩⟩⟩⟩))), (kk_ BK183), (kk_ BK198), GW198.out, GE198.out, NB183_198.out, NB198_183.out, hB_⟩)
          · skip
            refine box_step ?hg (N := 5) ?hd (cs := #[.slice none 0 0, .slice none 0 0]) (t := 33) ?hr ?_; (case hd => rfl); (case hg => rfl); (case hr => first | (go_simp; done) | (go_simp; rfl))
            intro gb198 hg w13 hbox hb
            replace HO_3 := Aside0.mk (Kd.S_below (Kd.S_elderB (ss_ HO_3) gb198 (Nat.le_of_eq hg.symm)) hb)
            have BK198 := Aside0.mk hbox
            have GW198 := gw_ w hg
            have GE198 := GW198
            replace HB := b1_ hb
            have NB183_198 := gN_ BK183 hg
            have NB198_183 := gP_ BK183 hg
            replace BK183 := bb_ BK183 hb
            clear hb hbox hg
            refine hK.out _ _ ⟨cz0_ BK183, cz1_ BK183⟩ (fun hHeld => ?_)
            clear hK K
            refine no_ (some 5) ?_
            refine on_ 3 (some 18) (bl_ 11 271) HT_ (fun K hK => ?_)
            refine gO_ Try.func108 #[.agg #[.slice A0_0 l0_0.length c0_0, .slice A0_1 l0_1.length c0_1], .int .i64 x4_1] (by rfl) rfl rfl qa_ ?_
            with_reducible refine (impl_NamesFrom.calls k1 _ _ l0_0 _ _ l0_1 x4_1 t188 _ (cb_ HR0_0) HC0_0.out (cb_ HR0_1) HC0_1.out A7.out).mono ?_
            rintro e w14 ⟨v189, rfl, ho0, hb⟩
            refine ⟨_, rfl, ?_⟩
            replace HO_3 := Aside0.mk (Kd.S_elder' (ss_ HO_3) (Kd.R_base ho0) hb)
            have HO190 := rl_ w ho0
            replace BK183 := bb_ BK183 hb
            replace BK198 := bb_ BK198 hb
            replace HB := b1_ hb
            clear hb ho0
            obtain ⟨Ao15, co15, eo15⟩ := Kd.R_slice HO190.out
            (first | subst eo15 | (injection eo15 with f1_ f2_ f3_; have f4_ := f1_.symm; have f5_ := f3_.symm; clear f1_ f2_ f3_; subst f4_; subst f5_))
            refine hK.out _ _ ⟨cz0_ BK183, cz1_ BK183⟩ (fun hHeld => ?_)
            clear hK K
            refine no_ (some 18) ?_
            refine on_ 4 (some 19) (bl_ 11 287) HT_ (fun K hK => ?_)
            refine gO_ Try.func107 #[.agg #[.slice A0_0 l0_0.length c0_0, .slice A0_1 l0_1.length c0_1], .slice Ao15 t188.length co15] (by rfl) rfl rfl qa_ ?_
            with_reducible refine (impl_RenameSurface.calls k1 _ _ l0_0 _ _ l0_1 _ _ t188 t191 t194 t197 _ (cb_ HR0_0) HC0_0.out (cb_ HR0_1) HC0_1.out (cr_ HO190) ((Kd.R_reads' HO190.out).2.1) A8.out).mono ?_
            rintro e w16 ⟨v192, v195, rfl, ho0, ho1, hb⟩
            refine ⟨_, rfl, ?_⟩
            replace HO_3 := Aside0.mk (Kd.S_mono (Kd.S_told (Kd.S_told (Kd.S_old (ss_ HO_3) hb) (Kd.R_base ho0)) (Kd.R_base ho1)) (fun _ h_ => h_.1))
            have HO193 := Aside0.mk (Kd.R_lower (Kd.R_new' ho0 (Kd.R_lt (rr_ HO190))) (below_size hB_))
            have HO196 := Aside0.mk (Kd.R_lower (Kd.R_new' ho1 (Kd.R_lt (rr_ HO190))) (below_size hB_))
            replace HO190 := Aside0.mk (Kd.R_mono (Kd.R_told (Kd.R_told (Kd.R_old (rr_ HO190) hb) (Kd.R_base ho0)) (Kd.R_base ho1)) (fun _ h_ => h_.1))
            replace BK183 := bb_ BK183 hb
            replace BK198 := bb_ BK198 hb
            replace HB := b1_ hb
            clear hb ho0 ho1
            refine hK.out _ _ ⟨cz0_ BK183, cz1_ BK183⟩ (fun hHeld => ?_)
            clear hK K
            refine no_ (some 19) ?_
            refine pu_ 5 (some 14) (bl_ 11 319) HT_ ?_
            refine pu_ 6 (some 20) (bl_ 11 383) HT_ ?_
            refine pu_ 7 (some 21) (bl_ 11 511) HT_ ?_
            exact norm_ (by simp only [putAll, Act.put, List.setIfInBounds_toArray, List.set_cons_zero, List.set_cons_succ]) (hCont (.slice Ao15 t188.length co15, v192, v195, gb198) _ ⟨hHeld, (rw_ (Kd.R_mono HO190.out (fun _ hk => ⟨hk.1.2, hk.2⟩))), (rw_ (Kd.R_mono HO193.out (fun _ hk => ⟨hk.2, hk.1⟩))), (rw_ (Kd.R_mono HO196.out (fun _ hk => ⟨hk.2, hk.1⟩))), (sw_ (Kd.S_mono HO_3.out (fun _ hk => ⟨hk.1.1.2, ⟨hk.1.2, ⟨hk.2, ⟨hk.1.1.1.1, hk.1.1.1.2⟩⟩⟩⟩))), (kk_ BK183), (kk_ BK198), GW198.out, GE198.out, NB183_198.out, NB198_183.out, hB_⟩)
        rintro ⟨v189, v192, v195, gb198⟩ w17 ⟨hS_, h0_, h1_, h2_, h3_, h4_, h5_, h6_, h7_, h8_, h9_, h10_⟩
        have n0_ : Aside0 (Kd.R (Kd.int .i64) 3 w17 w.heap.size (fun k_ => some k_ ≠ (v192 : Value).ownBlock ∧ some k_ ≠ (v195 : Value).ownBlock) v189 t188) := ⟨h0_⟩
        have n1_ : Aside0 (Kd.R (Kd.int .i64) 3 w17 w.heap.size (fun k_ => some k_ ≠ (v189 : Value).ownBlock ∧ some k_ ≠ (v195 : Value).ownBlock) v192 t191) := ⟨h1_⟩
        have n2_ : Aside0 (Kd.R (Kd.int .i64) 3 w17 w.heap.size (fun k_ => some k_ ≠ (v189 : Value).ownBlock ∧ some k_ ≠ (v192 : Value).ownBlock) v195 t194) := ⟨h2_⟩
        have n3_ : Aside0 (Kd.S k33 33 w17 w.heap.size (fun k_ => some k_ ≠ (v189 : Value).ownBlock ∧ some k_ ≠ (v192 : Value).ownBlock ∧ some k_ ≠ (v195 : Value).ownBlock ∧ k_ ≠ gb183 ∧ k_ ≠ gb198) u3 x3_1) := ⟨h3_⟩
        have n4_ : Aside0 (w17.heap[gb183]? = some (.cells #[.slice A0_0 l0_0.length c0_0, .slice A0_1 l0_1.length c0_1] 33 (0, 0))) := ⟨h4_⟩
        have n5_ : Aside0 (w17.heap[gb198]? = some (.cells #[.slice none 0 0, .slice none 0 0] 33 (0, 0))) := ⟨h5_⟩
        have n6_ : Aside0 (w.heap.size ≤ gb198) := ⟨h6_⟩
        have n7_ : Aside0 (w.heap.size ≤ gb198) := ⟨h7_⟩
        have n8_ : Aside0 (gb183 ≠ gb198) := ⟨h8_⟩
        have n9_ : Aside0 (gb198 ≠ gb183) := ⟨h9_⟩
        have n10_ : Aside0 (Below w.heap.size w w17) := ⟨h10_⟩
        clear HO_3
        clear BK183
        clear HB
        clear h0_ h1_ h2_ h3_ h4_ h5_ h6_ h7_ h8_ h9_ h10_
        have HO190 := n0_
        have HO193 := n1_
        have HO196 := n2_
        have HO_3 := n3_
        have BK183 := n4_
        have BK198 := n5_
        have GW198 := n6_
        have GE198 := n7_
        have NB183_198 := n8_
        have NB198_183 := n9_
        have HB := n10_
        clear n0_ n1_ n2_ n3_ n4_ n5_ n6_ n7_ n8_ n9_ n10_
        have hHeld : w17.cell? ⟨gb183, 0, none⟩ = some (.slice A0_0 l0_0.length c0_0) ∧ w17.cell? ⟨gb183, 1, none⟩ = some (.slice A0_1 l0_1.length c0_1) := hS_
        obtain ⟨Ao18, co18, eo18⟩ := Kd.R_slice HO193.out
        (first | subst eo18 | (injection eo18 with f1_ f2_ f3_; have f4_ := f1_.symm; have f5_ := f3_.symm; clear f1_ f2_ f3_; subst f4_; subst f5_))
        obtain ⟨Ao20, co20, eo20⟩ := Kd.R_slice HO196.out
        (first | subst eo20 | (injection eo20 with f1_ f2_ f3_; have f4_ := f1_.symm; have f5_ := f3_.symm; clear f1_ f2_ f3_; subst f4_; subst f5_))
        refine norm_ (a' := ?_) ?_ ?_
        rotate_left
        · simp only [putAll, Act.put, List.setIfInBounds_toArray, List.set_cons_zero, List.set_cons_succ]
          rfl
        refine on_ 9 (none) (bl_ 11 1023) HT_ (fun K hK => ?_)
        have hs19 : w17.cell? ⟨gb198, 0, none⟩ = some (.slice none 0 0) := cz0_ BK198
        have hfs19 := blk_frozen BK198.out 0
        have hns19_0 := NB183_198.out
        have hms19_0 := NB198_183.out
        have hs21 : w17.cell? ⟨gb198, 1, none⟩ = some (.slice none 0 0) := cz1_ BK198
        have hfs21 := blk_frozen BK198.out 1
        have hns21_0 := NB183_198.out
        have hms21_0 := NB198_183.out
        refine skip_ (w1 := ?_) (by rfl) rfl ?_ ?_
        rotate_left
        · go_simp
          rfl
        refine hK.out _ _ ⟨((cell_far (p := ⟨gb198, _, none⟩) NB183_198.out _).trans (((cell_far (p := ⟨gb198, _, none⟩) NB183_198.out _).trans (hHeld.1)))), ((cell_far (p := ⟨gb198, _, none⟩) NB183_198.out _).trans (((cell_far (p := ⟨gb198, _, none⟩) NB183_198.out _).trans (hHeld.2))))⟩ (fun hHeld => ?_)
        clear hK K
        refine pu_ 10 (some 6) (bl_ 11 2047) HT_ ?_
        refine done_ (done_of HT_.out (by kernel_rfl)) ?_
        have n0_ : Aside0 (Kd.S k33 33 ((w17.setCell ⟨gb198, 0, none⟩ (.slice Ao18 t191.length co18)).setCell ⟨gb198, 1, none⟩ (.slice Ao20 t194.length co20)) w.heap.size (fun k_ => some k_ ≠ (v189 : Value).ownBlock ∧ some k_ ≠ (.slice Ao18 t191.length co18 : Value).ownBlock ∧ some k_ ≠ (.slice Ao20 t194.length co20 : Value).ownBlock ∧ k_ ≠ gb183 ∧ k_ ≠ gb198) u3 x3_1) := ⟨(sw_ (Kd.S_mono (Kd.S_far (p := ⟨gb198, 1, none⟩) (Kd.S_far (p := ⟨gb198, 0, none⟩) (Kd.S_mono HO_3.out (fun k_ hk => (⟨hk, hk.2.2.2.2⟩ : _ ∧ k_ ≠ gb198))) (fun _ hk => hk.2) (.slice Ao18 t191.length co18)) (fun _ hk => hk.2) (.slice Ao20 t194.length co20)) (fun _ hk => ⟨hk.1.1, ⟨hk.1.2.1, ⟨hk.1.2.2.1, ⟨hk.1.2.2.2.1, hk.1.2.2.2.2⟩⟩⟩⟩)))⟩
        have n1_ : Aside0 (Kd.R (Kd.int .i64) 3 ((w17.setCell ⟨gb198, 0, none⟩ (.slice Ao18 t191.length co18)).setCell ⟨gb198, 1, none⟩ (.slice Ao20 t194.length co20)) w.heap.size (fun k_ => some k_ ≠ (.slice Ao18 t191.length co18 : Value).ownBlock ∧ some k_ ≠ (.slice Ao20 t194.length co20 : Value).ownBlock) v189 t188) := ⟨(rw_ (Kd.R_mono (Kd.R_far (p := ⟨gb198, 1, none⟩) (Kd.R_far (p := ⟨gb198, 0, none⟩) (Kd.R_types HO190.out BK198.out (by decide)) (fun _ hk => hk.2) (.slice Ao18 t191.length co18)) (fun _ hk => hk.2) (.slice Ao20 t194.length co20)) (fun _ hk => ⟨hk.1.1, hk.1.2⟩)))⟩
        have n2_ : Aside0 (Kd.R (Kd.int .i64) 3 ((w17.setCell ⟨gb198, 0, none⟩ (.slice Ao18 t191.length co18)).setCell ⟨gb198, 1, none⟩ (.slice Ao20 t194.length co20)) w.heap.size (fun k_ => some k_ ≠ (v189 : Value).ownBlock ∧ some k_ ≠ (.slice Ao20 t194.length co20 : Value).ownBlock) (.slice Ao18 t191.length co18) t191) := ⟨(rw_ (Kd.R_mono (Kd.R_far (p := ⟨gb198, 1, none⟩) (Kd.R_far (p := ⟨gb198, 0, none⟩) (Kd.R_types HO193.out BK198.out (by decide)) (fun _ hk => hk.2) (.slice Ao18 t191.length co18)) (fun _ hk => hk.2) (.slice Ao20 t194.length co20)) (fun _ hk => ⟨hk.1.1, hk.1.2⟩)))⟩
        have n3_ : Aside0 (Kd.R (Kd.int .i64) 3 ((w17.setCell ⟨gb198, 0, none⟩ (.slice Ao18 t191.length co18)).setCell ⟨gb198, 1, none⟩ (.slice Ao20 t194.length co20)) w.heap.size (fun k_ => some k_ ≠ (v189 : Value).ownBlock ∧ some k_ ≠ (.slice Ao18 t191.length co18 : Value).ownBlock) (.slice Ao20 t194.length co20) t194) := ⟨(rw_ (Kd.R_mono (Kd.R_far (p := ⟨gb198, 1, none⟩) (Kd.R_far (p := ⟨gb198, 0, none⟩) (Kd.R_types HO196.out BK198.out (by decide)) (fun _ hk => hk.2) (.slice Ao18 t191.length co18)) (fun _ hk => hk.2) (.slice Ao20 t194.length co20)) (fun _ hk => ⟨hk.1.1, hk.1.2⟩)))⟩
        have n4_ : Aside0 (((w17.setCell ⟨gb198, 0, none⟩ (.slice Ao18 t191.length co18)).setCell ⟨gb198, 1, none⟩ (.slice Ao20 t194.length co20)).heap[gb183]? = some (.cells #[.slice A0_0 l0_0.length c0_0, .slice A0_1 l0_1.length c0_1] 33 (0, 0))) := ⟨by (with_reducible repeat (first | refine blk_drewN ?_ _ | refine blk_drew ?_ | refine blk_alloc ?_ _)); refine blk_far ?_ NB183_198.out _; (with_reducible repeat (first | refine blk_drewN ?_ _ | refine blk_drew ?_ | refine blk_alloc ?_ _)); refine blk_far ?_ NB183_198.out _; (with_reducible repeat (first | refine blk_drewN ?_ _ | refine blk_drew ?_ | refine blk_alloc ?_ _)); exact BK183.out⟩
        have n5_ : Aside0 (((w17.setCell ⟨gb198, 0, none⟩ (.slice Ao18 t191.length co18)).setCell ⟨gb198, 1, none⟩ (.slice Ao20 t194.length co20)).heap[gb198]? = some (.cells #[.slice Ao18 t191.length co18, .slice Ao20 t194.length co20] 33 (0, 0))) := ⟨qp_⟩
        have n6_ : Aside0 (Below w.heap.size w ((w17.setCell ⟨gb198, 0, none⟩ (.slice Ao18 t191.length co18)).setCell ⟨gb198, 1, none⟩ (.slice Ao20 t194.length co20))) := ⟨hB_⟩
        skip
        generalize ((w17.setCell ⟨gb198, 0, none⟩ (.slice Ao18 t191.length co18)).setCell ⟨gb198, 1, none⟩ (.slice Ao20 t194.length co20)) = w22 at n0_ n1_ n2_ n3_ n4_ n5_ n6_ ⊢
        have HO_3 := n0_
        have HO190 := n1_
        have HO193 := n2_
        have HO196 := n3_
        have BK183 := n4_
        have BK198 := n5_
        have HB := n6_
        clear n0_ n1_ n2_ n3_ n4_ n5_ n6_
        have hnb23 := NB198_183.out
        have hnc23 := NB183_198.out
        obtain ⟨hcz24_0, hcz24_1, hfz24_0, hfz24_1⟩ := c2_ BK198
        try go_wp2_with (first | ((with_reducible refine gate_builtin (b := .append) (xs := #[.tmp 22, .tmp 24]) rfl ?_); at_builtin; refine Kd.S_append k33 (w0 := w) w.heap.size rfl (.tmp 22) (.tmp 24) 25 33 (.agg #[(.slice none 0 0), (.slice none 0 0)]) 48 rfl Try.underlying25 info33 rfl (by decide) (by omega) u3 x3_1 (⟨t191, t194⟩ : S33) [.slice Ao18 t191.length co18, .slice Ao20 t194.length co20] (fun k_ => some k_ ≠ (v189 : Value).ownBlock ∧ k_ ≠ gb183 ∧ k_ ≠ gb198) (fun k_ => some k_ = (.slice Ao18 t191.length co18 : Value).ownBlock ∨ some k_ = (.slice Ao20 t194.length co20 : Value).ownBlock) rfl rfl ?aP (fun k_ hk_ => hk_.elim (fun h_ => ((Kd.R_mono (ok' := fun k_ => ((fun k_ => some k_ ≠ (v189 : Value).ownBlock ∧ k_ ≠ gb183 ∧ k_ ≠ gb198)) k_ ∧ some k_ ≠ (u3 : Value).ownBlock) (Kd.R_types (Kd.R_types (Kd.R_apart' (HO193.out) (Kd.S_typed HO_3.out) (by decide)) BK183.out (by decide)) BK198.out (by decide)) (fun k_ hk => ⟨⟨hk.1.1.1.1, ⟨hk.1.2, hk.2⟩⟩, hk.1.1.2⟩))).1 k_ h_.symm) (fun h_ => ((Kd.R_mono (ok' := fun k_ => ((fun k_ => some k_ ≠ (v189 : Value).ownBlock ∧ k_ ≠ gb183 ∧ k_ ≠ gb198)) k_ ∧ some k_ ≠ (u3 : Value).ownBlock) (Kd.R_types (Kd.R_types (Kd.R_apart' (HO196.out) (Kd.S_typed HO_3.out) (by decide)) BK183.out (by decide)) BK198.out (by decide)) (fun k_ hk => ⟨⟨hk.1.1.1.1, ⟨hk.1.2, hk.2⟩⟩, hk.1.1.2⟩))).1 k_ h_.symm)) ?aF ?aO ?aB ?aS ?aL ?_; (case aP => exact k33_mkM _ _ _ (⟨t191, t194⟩ : S33) (Kd.R_mono (Kd.R_tight rfl (Kd.R_mono (ok' := fun k_ => ((fun k_ => some k_ ≠ (v189 : Value).ownBlock ∧ k_ ≠ gb183 ∧ k_ ≠ gb198)) k_ ∧ some k_ ≠ (u3 : Value).ownBlock) (Kd.R_types (Kd.R_types (Kd.R_apart' (HO193.out) (Kd.S_typed HO_3.out) (by decide)) BK183.out (by decide)) BK198.out (by decide)) (fun k_ hk => ⟨⟨hk.1.1.1.1, ⟨hk.1.2, hk.2⟩⟩, hk.1.1.2⟩))) (fun _ h_ => Or.inl h_)) (Kd.R_mono (Kd.R_tight rfl (Kd.R_mono (ok' := fun k_ => ((fun k_ => some k_ ≠ (v189 : Value).ownBlock ∧ k_ ≠ gb183 ∧ k_ ≠ gb198)) k_ ∧ some k_ ≠ (u3 : Value).ownBlock) (Kd.R_types (Kd.R_types (Kd.R_apart' (HO196.out) (Kd.S_typed HO_3.out) (by decide)) BK183.out (by decide)) BK198.out (by decide)) (fun k_ hk => ⟨⟨hk.1.1.1.1, ⟨hk.1.2, hk.2⟩⟩, hk.1.1.2⟩))) (fun _ h_ => Or.inr (h_))) (fun k_ h_ e_ => (HO193.out.1 k_ h_).2 e_.symm)); (case aB => exact hB_); (case aF => exact (fun k_ hk => ⟨Kd.fresh' (Kd.R_lt (rr_ HO190)) k_ hk, Kd.freshB (kk_ BK183) k_ hk, Kd.freshB (kk_ BK198) k_ hk⟩)); (case aO => exact (sw_ (Kd.S_mono HO_3.out (fun k_ hk => ⟨⟨hk.1, ⟨hk.2.2.2.1, hk.2.2.2.2⟩⟩, fun e_ => e_.elim (fun h_ => hk.2.1 h_) (fun h_ => hk.2.2.1 h_)⟩)))); (case aS => exact (below_size hB_)); (case aL => have := LMc9.out; omega); intro v200 w25 ho hb hg hat; rw [← Ny199.out] at ho; replace BK183 := Aside0.mk (blk_grown (kk_ BK183) hg (Kd.S_away HO_3.out (fun _ hk => hk.2.2.2.1))); replace HO190 := Aside0.mk (Kd.R_over' (rr_ HO190) (Kd.S_typed (ss_ HO_3)) (by decide) hg); replace BK198 := Aside0.mk (blk_grown (kk_ BK198) hg (Kd.S_away HO_3.out (fun _ hk => hk.2.2.2.2))); replace HB := Aside0.mk hb; have HO201 := Aside0.mk ho; clear HO_3 HO193 HO196; clear ho hb hg hat))
        go_roundg k1
        case measure => have := HK1.out; omega
        case rel => exact ⟨(y199), (wrap64 (x4_1 + 1)), qc_, H', ⟨by have := HK1.out; omega⟩, ⟨(sw_ (Kd.S_mono HO201.out (fun _ hk => hk.2.1)))⟩, ⟨(kk_ BK183)⟩, ⟨hB_⟩⟩
      · rw [if_neg c6] at H
        have c6b0 := decide_eq_false c6
        clear c6
        obtain rfl := Option.some.inj H
        obtain ⟨hcz26_0, hcz26_1, hfz26_0, hfz26_1⟩ := c2_ BK183
        go_wp2_with (first | ((with_reducible refine gate_callee (f := 23) rfl ?_); refine gL_ (some 10) Try.func23 #[.agg #[.slice A0_0 l0_0.length c0_0, .slice A0_1 l0_1.length c0_1]] rfl qa_ ?_; (with_reducible refine (impl_CountSquares.calls k1 _ _ l0_0 _ _ l0_1 t187 _ (cb_ HR0_0) HC0_0.out (cb_ HR0_1) HC0_1.out A5.out).mono ?_); rintro e w27 ⟨rfl, hb⟩; refine ⟨_, rfl, ?_⟩; replace HO_3 := sb_ HO_3 hb; replace BK183 := bb_ BK183 hb; replace HB := b1_ hb; clear hb))
        go_ret
        exact ⟨_, qb_, (sw_ (Kd.S_mono HO_3.out (fun _ hk => trivial))), hB_⟩
end Go.Proofs.Ytoijcallajegfaa.A
end
section
namespace Go.Proofs.Ytoijcallajegfaa.A
open Go.RowKit Go.Proofs.YtoijcallajegfaaW.PrintWords Go.Proofs.YtoijcallajegfaaW.PrintLast Go.Proofs.YtoijcallajegfaaW.PrintMore
attribute [local go_sem] max2_int min2_int max_two min_two max_three min_three max_four min_four
set_option linter.unusedVariables false
set_option linter.unusedSimpArgs false
def cmp_isNaN_int.f (a0 : Int) : Option (Bool) := some (a0 != a0)
set_option maxHeartbeats 8000000 in
set_option maxRecDepth 100000 in
theorem cmp_isNaN_int.calls (a0 : Int) (r : Bool) (w : World) (h : cmp_isNaN_int.f a0 = some r) :
    Calls Try.prog 149 #[.int .i64 a0] w fun e w' => e = .returned (.bool r) ∧ Drawn0 w w' := by
  have H := h
  unfold cmp_isNaN_int.f at H
  clear h
  obtain rfl := Option.some.inj H
  go_enter Try.func149, Try.ntmps149
  go_wp2
  go_ret
  exact ⟨qc_, by repeat (first | exact Drawn0.refl _ | apply Drawn0.step)⟩
end Go.Proofs.Ytoijcallajegfaa.A
end
section
namespace Go.Proofs.Ytoijcallajegfaa.A
open Go.RowKit Go.Proofs.YtoijcallajegfaaW.PrintWords Go.Proofs.YtoijcallajegfaaW.PrintLast Go.Proofs.YtoijcallajegfaaW.PrintMore
attribute [local go_sem] max2_int min2_int max_two min_two max_three min_three max_four min_four
set_option linter.unusedVariables false
set_option linter.unusedSimpArgs false
def cmp_Compare_int.f (a0 : Int) (a1 : Int) : Option (Int) := (cmp_isNaN_int.f a0).bind fun t202 => ((cmp_isNaN_int.f a1).bind fun t203 => (if t202 = true then (if t203 = true then (some 0) else (some (-1))) else (if t203 = true then (some 1) else (if a0 < a1 then (some (-1)) else (if a0 > a1 then (some 1) else (some 0))))))
set_option maxHeartbeats 8000000 in
set_option maxRecDepth 100000 in
theorem cmp_Compare_int.calls (a0 : Int) (a1 : Int) (r : Int) (w : World) (h : cmp_Compare_int.f a0 a1 = some r) :
    Calls Try.prog 105 #[.int .i64 a0, .int .i64 a1] w fun e w' => e = .returned (.int .i64 r) ∧ Drawn0 w w' := by
  have H := h
  unfold cmp_Compare_int.f at H
  clear h
  obtain ⟨t202, A3, H⟩ := bi_ H
  obtain ⟨t203, A4, H⟩ := bi_ H
  by_cases c5 : t202 = true
  · subst c5
    rw [if_pos rfl] at H
    by_cases c6 : t203 = true
    · subst c6
      rw [if_pos rfl] at H
      obtain rfl := Option.some.inj H
      go_enter Try.func105, Try.ntmps105
      go_wp2_with (first | ((with_reducible refine gate_callee (f := 149) rfl ?_); refine gL_ (some 8) Try.func149 #[.int .i64 a0] rfl qa_ ?_; (with_reducible refine (cmp_isNaN_int.calls a0 true _ A3.out).mono ?_); rintro e w' ⟨rfl, ⟨nd, rfl⟩⟩; refine ⟨_, rfl, ?_⟩) | ((with_reducible refine gate_callee (f := 149) rfl ?_); refine gL_ (some 10) Try.func149 #[.int .i64 a1] rfl qa_ ?_; (with_reducible refine (cmp_isNaN_int.calls a1 true _ A4.out).mono ?_); rintro e w' ⟨rfl, ⟨nd, rfl⟩⟩; refine ⟨_, rfl, ?_⟩))
      go_ret
      exact ⟨qc_, by repeat (first | exact Drawn0.refl _ | apply Drawn0.step)⟩
    · replace c6 := Bool.eq_false_iff.mpr c6
      subst c6
      have H1 : (some (-1)) = some r := by rw [if_neg (show ¬ (false = true) by decide)] at H; exact H
      clear H
      have H := H1
      clear H1
      obtain rfl := Option.some.inj H
      go_enter Try.func105, Try.ntmps105
      go_wp2_with (first | ((with_reducible refine gate_callee (f := 149) rfl ?_); refine gL_ (some 8) Try.func149 #[.int .i64 a0] rfl qa_ ?_; (with_reducible refine (cmp_isNaN_int.calls a0 true _ A3.out).mono ?_); rintro e w' ⟨rfl, ⟨nd, rfl⟩⟩; refine ⟨_, rfl, ?_⟩) | ((with_reducible refine gate_callee (f := 149) rfl ?_); refine gL_ (some 10) Try.func149 #[.int .i64 a1] rfl qa_ ?_; (with_reducible refine (cmp_isNaN_int.calls a1 false _ A4.out).mono ?_); rintro e w' ⟨rfl, ⟨nd, rfl⟩⟩; refine ⟨_, rfl, ?_⟩))
      go_ret
      exact ⟨qc_, by repeat (first | exact Drawn0.refl _ | apply Drawn0.step)⟩
  · replace c5 := Bool.eq_false_iff.mpr c5
    subst c5
    have H1 : (if t203 = true then (some 1) else (if a0 < a1 then (some (-1)) else (if a0 > a1 then (some 1) else (some 0)))) = some r := by rw [if_neg (show ¬ (false = true) by decide)] at H; exact H
    clear H
    have H := H1
    clear H1
    by_cases c7 : t203 = true
    · subst c7
      rw [if_pos rfl] at H
      obtain rfl := Option.some.inj H
      go_enter Try.func105, Try.ntmps105
      go_wp2_with (first | ((with_reducible refine gate_callee (f := 149) rfl ?_); refine gL_ (some 8) Try.func149 #[.int .i64 a0] rfl qa_ ?_; (with_reducible refine (cmp_isNaN_int.calls a0 false _ A3.out).mono ?_); rintro e w' ⟨rfl, ⟨nd, rfl⟩⟩; refine ⟨_, rfl, ?_⟩) | ((with_reducible refine gate_callee (f := 149) rfl ?_); refine gL_ (some 10) Try.func149 #[.int .i64 a1] rfl qa_ ?_; (with_reducible refine (cmp_isNaN_int.calls a1 true _ A4.out).mono ?_); rintro e w' ⟨rfl, ⟨nd, rfl⟩⟩; refine ⟨_, rfl, ?_⟩))
      go_ret
      exact ⟨qc_, by repeat (first | exact Drawn0.refl _ | apply Drawn0.step)⟩
    · replace c7 := Bool.eq_false_iff.mpr c7
      subst c7
      have H1 : (if a0 < a1 then (some (-1)) else (if a0 > a1 then (some 1) else (some 0))) = some r := by rw [if_neg (show ¬ (false = true) by decide)] at H; exact H
      clear H
      have H := H1
      clear H1
      by_cases c8 : a0 < a1
      · rw [if_pos c8] at H
        have c8b0 := decide_eq_true c8
        clear c8
        obtain rfl := Option.some.inj H
        go_enter Try.func105, Try.ntmps105
        go_wp2_with (first | ((with_reducible refine gate_callee (f := 149) rfl ?_); refine gL_ (some 8) Try.func149 #[.int .i64 a0] rfl qa_ ?_; (with_reducible refine (cmp_isNaN_int.calls a0 false _ A3.out).mono ?_); rintro e w' ⟨rfl, ⟨nd, rfl⟩⟩; refine ⟨_, rfl, ?_⟩) | ((with_reducible refine gate_callee (f := 149) rfl ?_); refine gL_ (some 10) Try.func149 #[.int .i64 a1] rfl qa_ ?_; (with_reducible refine (cmp_isNaN_int.calls a1 false _ A4.out).mono ?_); rintro e w' ⟨rfl, ⟨nd, rfl⟩⟩; refine ⟨_, rfl, ?_⟩))
        go_ret
        exact ⟨qc_, by repeat (first | exact Drawn0.refl _ | apply Drawn0.step)⟩
      · rw [if_neg c8] at H
        have c8b0 := decide_eq_false c8
        clear c8
        by_cases c9 : a0 > a1
        · rw [if_pos c9] at H
          have c9b0 : decide (a1 < a0) = true := decide_eq_true c9
          clear c9
          obtain rfl := Option.some.inj H
          go_enter Try.func105, Try.ntmps105
          go_wp2_with (first | ((with_reducible refine gate_callee (f := 149) rfl ?_); refine gL_ (some 8) Try.func149 #[.int .i64 a0] rfl qa_ ?_; (with_reducible refine (cmp_isNaN_int.calls a0 false _ A3.out).mono ?_); rintro e w' ⟨rfl, ⟨nd, rfl⟩⟩; refine ⟨_, rfl, ?_⟩) | ((with_reducible refine gate_callee (f := 149) rfl ?_); refine gL_ (some 10) Try.func149 #[.int .i64 a1] rfl qa_ ?_; (with_reducible refine (cmp_isNaN_int.calls a1 false _ A4.out).mono ?_); rintro e w' ⟨rfl, ⟨nd, rfl⟩⟩; refine ⟨_, rfl, ?_⟩))
          go_ret
          exact ⟨qc_, by repeat (first | exact Drawn0.refl _ | apply Drawn0.step)⟩
        · rw [if_neg c9] at H
          have c9b0 : decide (a1 < a0) = false := decide_eq_false c9
          clear c9
          obtain rfl := Option.some.inj H
          go_enter Try.func105, Try.ntmps105
          go_wp2_with (first | ((with_reducible refine gate_callee (f := 149) rfl ?_); refine gL_ (some 8) Try.func149 #[.int .i64 a0] rfl qa_ ?_; (with_reducible refine (cmp_isNaN_int.calls a0 false _ A3.out).mono ?_); rintro e w' ⟨rfl, ⟨nd, rfl⟩⟩; refine ⟨_, rfl, ?_⟩) | ((with_reducible refine gate_callee (f := 149) rfl ?_); refine gL_ (some 10) Try.func149 #[.int .i64 a1] rfl qa_ ?_; (with_reducible refine (cmp_isNaN_int.calls a1 false _ A4.out).mono ?_); rintro e w' ⟨rfl, ⟨nd, rfl⟩⟩; refine ⟨_, rfl, ?_⟩))
          go_ret
          exact ⟨qc_, by repeat (first | exact Drawn0.refl _ | apply Drawn0.step)⟩
end Go.Proofs.Ytoijcallajegfaa.A
end
section
namespace Go.Proofs.Ytoijcallajegfaa.A
open Go.RowKit Go.Proofs.YtoijcallajegfaaW.PrintWords Go.Proofs.YtoijcallajegfaaW.PrintLast Go.Proofs.YtoijcallajegfaaW.PrintMore
attribute [local go_sem] max2_int min2_int max_two min_two max_three min_three max_four min_four
set_option linter.unusedVariables false
set_option linter.unusedSimpArgs false
def slices_Compare_int_int.l0 : Nat → List Int → List Int → List Int → Int → Int → Option (Int)
  | 0, _, _, _, _, _ => none
  | k + 1, x0, x1, x9, x10, x11 => if x11 < x10 then (if 0 ≤ x11 then (if x11 < (x9.length : Int) then (if x11 ≥ (x1.length : Int) then (some 1) else (if x11 < (x1.length : Int) then ((cmp_Compare_int.f (rd x9 x11) (rd x1 x11)).bind fun t206 => (if t206 = 0 then (slices_Compare_int_int.l0 k x0 x1 x9 x10 (wrap64 (x11 + 1))) else (some t206))) else (none))) else (none)) else (none)) else (if (x0.length : Int) < (x1.length : Int) then (some (-1)) else (some 0))
def slices_Compare_int_int.f (k : Nat) (l0 : List Int) (l1 : List Int) : Option (Int) := slices_Compare_int_int.l0 k l0 l1 l0 (l0.length : Int) 0
theorem slices_Compare_int_int.mono_l : ∀ k, (∀ y0 y1 y2 y3 y4, LeO (slices_Compare_int_int.l0 k y0 y1 y2 y3 y4) (slices_Compare_int_int.l0 (k + 1) y0 y1 y2 y3 y4))
  | 0 => fun _ _ _ _ _ r h => by simp [slices_Compare_int_int.l0] at h
  | k + 1 => by
    have ih0 := slices_Compare_int_int.mono_l k
    · intro y0 y1 y2 y3 y4
      unfold slices_Compare_int_int.l0
      repeat' first|exact ih0 _ _ _ _ _|exact lo_|refine LeO.ite ?_ ?_|refine LeO.bind ?_ (fun _ => ?_)
theorem slices_Compare_int_int.mono : ∀ a0 a1 k, LeO (slices_Compare_int_int.f k a0 a1) (slices_Compare_int_int.f (k + 1) a0 a1) := by
  intro a0 a1 k
  have ih0 := slices_Compare_int_int.mono_l k
  unfold slices_Compare_int_int.f
  repeat' first|exact ih0 _ _ _ _ _|exact lo_|refine LeO.ite ?_ ?_|refine LeO.bind ?_ (fun _ => ?_)
set_option maxHeartbeats 8000000 in
set_option maxRecDepth 100000 in
theorem slices_Compare_int_int.calls (k : Nat) (A0 : Option Addr) (c0 : Nat) (l0 : List Int) (A1 : Option Addr) (c1 : Nat) (l1 : List Int) (r : Int) (w : World) (hr0 : Kd.C (Kd.int .i64) w A0 l0.length l0) (hc0 : l0.length ≤ c0) (hr1 : Kd.C (Kd.int .i64) w A1 l1.length l1) (hc1 : l1.length ≤ c1) (h : slices_Compare_int_int.f k l0 l1 = some r) :
    Calls Try.prog 54 #[.slice A0 l0.length c0, .slice A1 l1.length c1] w fun e w' => e = .returned (.int .i64 r) ∧ Drawn0 w w' := by
  have HR0 := Aside0.mk hr0
  have HC0 := Aside0.mk hc0
  clear hr0 hc0
  have HR1 := Aside0.mk hr1
  have HC1 := Aside0.mk hc1
  clear hr1 hc1
  have H := h
  unfold slices_Compare_int_int.f at H
  clear h
  have H' := Aside0.mk H
  clear H
  go_enter Try.func54, Try.ntmps54
  go_wp2
  go_loopg [11] k (fun kq v11 w' => ∃ (x11_1 : Int), v11 = .int .i64 x11_1 ∧ Aside0 (slices_Compare_int_int.l0 kq l0 l1 l0 (l0.length : Int) x11_1 = some r) ∧ Aside0 (kq ≤ k) ∧ Drawn0 w w')
  case atStart => exact ⟨(0), qc_, H', ⟨Nat.le_refl _⟩, by repeat (first | exact Drawn0.refl _ | apply Drawn0.step)⟩
  case round =>
    clear H'
    obtain ⟨x11_1, rfl, HA, HK1, ⟨m1, rfl⟩⟩ := hrel
    cases gk with
    | zero => exact absurd HA.out (by simp [slices_Compare_int_int.l0])
    | succ k1 =>
      have H := HA.out
      clear HA
      simp only [slices_Compare_int_int.l0] at H
      by_cases c3 : x11_1 < (l0.length : Int)
      · rw [if_pos c3] at H
        have c3b0 := decide_eq_true c3
        clear c3
        have c4 := cp_ H
        replace H := ca_ H
        have c4b0 := decide_eq_true c4
        clear c4
        have c5 := cp_ H
        replace H := ca_ H
        have c5b0 := decide_eq_true c5
        clear c5
        by_cases c6 : x11_1 ≥ (l1.length : Int)
        · rw [if_pos c6] at H
          have c6b0 : decide ((l1.length : Int) ≤ x11_1) = true := decide_eq_true c6
          clear c6
          obtain rfl := Option.some.inj H
          have p204 : 0 ≤ (x11_1 : Int) := of_decide_eq_true qe_
          have q204 : x11_1 < (l0.length : Int) := of_decide_eq_true qe_
          obtain ⟨ad204, e204, hx204_0⟩ := Kd.at_int HR0.out x11_1 p204 q204
          cases e204
          replace p204 := eq_true p204
          replace q204 := eq_true q204
          go_wp2
          go_ret
          exact ⟨qc_, by repeat (first | exact Drawn0.refl _ | apply Drawn0.step)⟩
        · rw [if_neg c6] at H
          have c6b0 : decide ((l1.length : Int) ≤ x11_1) = false := decide_eq_false c6
          clear c6
          have c7 := cp_ H
          replace H := ca_ H
          have c7b0 := decide_eq_true c7
          clear c7
          obtain ⟨t206, A8, H⟩ := bi_ H
          by_cases c9 : t206 = 0
          · rw [if_pos c9] at H
            have c9b0 : (t206 == 0) = true := beq_iff_eq.mpr c9
            have c9b1 : (t206 != 0) = false := bne_eq_false_iff_eq.mpr c9
            clear c9
            have H' := Aside0.mk H
            clear H
            have p204 : 0 ≤ (x11_1 : Int) := of_decide_eq_true qe_
            have q204 : x11_1 < (l0.length : Int) := of_decide_eq_true qe_
            obtain ⟨ad204, e204, hx204_0⟩ := Kd.at_int HR0.out x11_1 p204 q204
            cases e204
            replace p204 := eq_true p204
            replace q204 := eq_true q204
            have p205 : 0 ≤ (x11_1 : Int) := of_decide_eq_true qe_
            have q205 : x11_1 < (l1.length : Int) := of_decide_eq_true qe_
            obtain ⟨ad205, e205, hx205_0⟩ := Kd.at_int HR1.out x11_1 p205 q205
            cases e205
            replace p205 := eq_true p205
            replace q205 := eq_true q205
            go_wp2_with (first | ((with_reducible refine gate_callee (f := 105) rfl ?_); refine gL_ (some 26) Try.func105 #[.int .i64 (rd l0 x11_1), .int .i64 (rd l1 x11_1)] rfl qa_ ?_; (with_reducible refine (cmp_Compare_int.calls (rd l0 x11_1) (rd l1 x11_1) t206 _ A8.out).mono ?_); rintro e w' ⟨rfl, ⟨nd, rfl⟩⟩; refine ⟨_, rfl, ?_⟩))
            go_roundg k1
            case measure => have := HK1.out; omega
            case rel => exact ⟨(wrap64 (x11_1 + 1)), qc_, H', ⟨by have := HK1.out; omega⟩, by repeat (first | exact Drawn0.refl _ | apply Drawn0.step)⟩
          · rw [if_neg c9] at H
            have c9b0 : (t206 == 0) = false := beq_eq_false_iff_ne.mpr c9
            have c9b1 : (t206 != 0) = true := bne_iff_ne.mpr c9
            obtain rfl := Option.some.inj H
            have p204 : 0 ≤ (x11_1 : Int) := of_decide_eq_true qe_
            have q204 : x11_1 < (l0.length : Int) := of_decide_eq_true qe_
            obtain ⟨ad204, e204, hx204_0⟩ := Kd.at_int HR0.out x11_1 p204 q204
            cases e204
            replace p204 := eq_true p204
            replace q204 := eq_true q204
            have p205 : 0 ≤ (x11_1 : Int) := of_decide_eq_true qe_
            have q205 : x11_1 < (l1.length : Int) := of_decide_eq_true qe_
            obtain ⟨ad205, e205, hx205_0⟩ := Kd.at_int HR1.out x11_1 p205 q205
            cases e205
            replace p205 := eq_true p205
            replace q205 := eq_true q205
            go_wp2_with (first | ((with_reducible refine gate_callee (f := 105) rfl ?_); refine gL_ (some 26) Try.func105 #[.int .i64 (rd l0 x11_1), .int .i64 (rd l1 x11_1)] rfl qa_ ?_; (with_reducible refine (cmp_Compare_int.calls (rd l0 x11_1) (rd l1 x11_1) t206 _ A8.out).mono ?_); rintro e w' ⟨rfl, ⟨nd, rfl⟩⟩; refine ⟨_, rfl, ?_⟩))
            go_ret
            exact ⟨qc_, by repeat (first | exact Drawn0.refl _ | apply Drawn0.step)⟩
      · rw [if_neg c3] at H
        have c3b0 := decide_eq_false c3
        clear c3
        by_cases c10 : (l0.length : Int) < (l1.length : Int)
        · rw [if_pos c10] at H
          have c10b0 := decide_eq_true c10
          have c10b1 : decide (l0.length < l1.length) = true := decide_eq_true (Int.ofNat_lt.mp c10)
          clear c10
          obtain rfl := Option.some.inj H
          go_wp2
          go_ret
          exact ⟨qc_, by repeat (first | exact Drawn0.refl _ | apply Drawn0.step)⟩
        · rw [if_neg c10] at H
          have c10b0 := decide_eq_false c10
          have c10b1 : decide (l0.length < l1.length) = false := decide_eq_false (fun h => c10 (Int.ofNat_lt.mpr h))
          clear c10
          obtain rfl := Option.some.inj H
          go_wp2
          go_ret
          exact ⟨qc_, by repeat (first | exact Drawn0.refl _ | apply Drawn0.step)⟩
end Go.Proofs.Ytoijcallajegfaa.A
end
section
namespace Go.Proofs.Ytoijcallajegfaa.A
open Go.RowKit Go.Proofs.YtoijcallajegfaaW.PrintWords Go.Proofs.YtoijcallajegfaaW.PrintLast Go.Proofs.YtoijcallajegfaaW.PrintMore
attribute [local go_sem] max2_int min2_int max_two min_two max_three min_three max_four min_four
set_option linter.unusedVariables false
set_option linter.unusedSimpArgs false
def impl_compareSurfaces.f (k : Nat) (l0_0 : List Int) (l0_1 : List Int) (l1_0 : List Int) (l1_1 : List Int) : Option (Int) := (slices_Compare_int_int.f k l0_0 l1_0).bind fun t209 => (if t209 = 0 then ((slices_Compare_int_int.f k l0_1 l1_1).bind fun t210 => (some t210)) else (some t209))
theorem impl_compareSurfaces.mono : ∀ a0 a1 a2 a3 k, LeO (impl_compareSurfaces.f k a0 a1 a2 a3) (impl_compareSurfaces.f (k + 1) a0 a1 a2 a3) := by
  intro a0 a1 a2 a3 k
  unfold impl_compareSurfaces.f
  repeat' first|exact slices_Compare_int_int.mono _ _ _|exact lo_|refine LeO.ite ?_ ?_|refine LeO.bind ?_ (fun _ => ?_)
set_option maxHeartbeats 8000000 in
set_option maxRecDepth 100000 in
theorem impl_compareSurfaces.calls (k : Nat) (A0_0 : Option Addr) (c0_0 : Nat) (l0_0 : List Int) (A0_1 : Option Addr) (c0_1 : Nat) (l0_1 : List Int) (A1_0 : Option Addr) (c1_0 : Nat) (l1_0 : List Int) (A1_1 : Option Addr) (c1_1 : Nat) (l1_1 : List Int) (r : Int) (w : World) (hr0_0 : Kd.C (Kd.int .i64) w A0_0 l0_0.length l0_0) (hc0_0 : l0_0.length ≤ c0_0) (hr0_1 : Kd.C (Kd.int .i64) w A0_1 l0_1.length l0_1) (hc0_1 : l0_1.length ≤ c0_1) (hr1_0 : Kd.C (Kd.int .i64) w A1_0 l1_0.length l1_0) (hc1_0 : l1_0.length ≤ c1_0) (hr1_1 : Kd.C (Kd.int .i64) w A1_1 l1_1.length l1_1) (hc1_1 : l1_1.length ≤ c1_1) (h : impl_compareSurfaces.f k l0_0 l0_1 l1_0 l1_1 = some r) :
    Calls Try.prog 60 #[.agg #[.slice A0_0 l0_0.length c0_0, .slice A0_1 l0_1.length c0_1], .agg #[.slice A1_0 l1_0.length c1_0, .slice A1_1 l1_1.length c1_1]] w fun e w' => e = .returned (.int .i64 r) ∧ Below w.heap.size w w' := by
  have hu33 := Try.underlying33
  have HR0_0 := Aside0.mk hr0_0
  have HC0_0 := Aside0.mk hc0_0
  clear hr0_0 hc0_0
  have HR0_1 := Aside0.mk hr0_1
  have HC0_1 := Aside0.mk hc0_1
  clear hr0_1 hc0_1
  have HR1_0 := Aside0.mk hr1_0
  have HC1_0 := Aside0.mk hc1_0
  clear hr1_0 hc1_0
  have HR1_1 := Aside0.mk hr1_1
  have HC1_1 := Aside0.mk hc1_1
  clear hr1_1 hc1_1
  have HB := Aside0.mk (Below.refl w.heap.size w)
  have H := h
  unfold impl_compareSurfaces.f at H
  clear h
  obtain ⟨t209, A3, H⟩ := bi_ H
  by_cases c4 : t209 = 0
  · rw [if_pos c4] at H
    have c4b0 : (t209 == 0) = true := beq_iff_eq.mpr c4
    have c4b1 : (t209 != 0) = false := bne_eq_false_iff_eq.mpr c4
    clear c4
    obtain ⟨t210, A5, H⟩ := bi_ H
    obtain rfl := Option.some.inj H
    go_enter Try.func60, Try.ntmps60
    go_wp2_with (first | ((with_reducible refine gate_dst (N := 2) rfl ?_); refine bx_ 2 #[.slice A0_0 l0_0.length c0_0, .slice A0_1 l0_1.length c0_1] 33 ?_; intro gb207 hg w6 hbox hb; have BK207 := Aside0.mk hbox; have GW207 := gw_ w hg; have GE207 := GW207; replace HB := b1_ hb; clear hb hbox hg) | ((with_reducible refine gate_dst (N := 3) rfl ?_); refine bx_ 3 #[.slice A1_0 l1_0.length c1_0, .slice A1_1 l1_1.length c1_1] 33 ?_; intro gb208 hg w7 hbox hb; have BK208 := Aside0.mk hbox; have GW208 := gw_ w hg; have GE208 := GW208; replace HB := b1_ hb; have NB207_208 := gN_ BK207 hg; have NB208_207 := gP_ BK207 hg; replace BK207 := bb_ BK207 hb; clear hb hbox hg; have hnb8 := NB207_208.out; have hnc8 := NB208_207.out; obtain ⟨hcz9_0, hcz9_1, hfz9_0, hfz9_1⟩ := c2_ BK207; obtain ⟨hcz10_0, hcz10_1, hfz10_0, hfz10_1⟩ := c2_ BK208) | ((with_reducible refine gate_callee (f := 54) rfl ?_); refine gL_ (some 10) Try.func54 #[.slice A0_0 l0_0.length c0_0, .slice A1_0 l1_0.length c1_0] rfl qa_ ?_; (with_reducible refine (slices_Compare_int_int.calls k _ _ l0_0 _ _ l1_0 t209 _ (cb_ HR0_0) HC0_0.out (cb_ HR1_0) HC1_0.out A3.out).mono ?_); rintro e w' ⟨rfl, ⟨nd, rfl⟩⟩; refine ⟨_, rfl, ?_⟩) | ((with_reducible refine gate_callee (f := 54) rfl ?_); refine gL_ (some 18) Try.func54 #[.slice A0_1 l0_1.length c0_1, .slice A1_1 l1_1.length c1_1] rfl qa_ ?_; (with_reducible refine (slices_Compare_int_int.calls k _ _ l0_1 _ _ l1_1 t210 _ (cw_ (Kd.C_below HR0_1.out hB_)) HC0_1.out (cw_ (Kd.C_below HR1_1.out hB_)) HC1_1.out A5.out).mono ?_); rintro e w' ⟨rfl, ⟨nd, rfl⟩⟩; refine ⟨_, rfl, ?_⟩))
    go_ret
    exact ⟨qb_, hB_⟩
  · rw [if_neg c4] at H
    have c4b0 : (t209 == 0) = false := beq_eq_false_iff_ne.mpr c4
    have c4b1 : (t209 != 0) = true := bne_iff_ne.mpr c4
    obtain rfl := Option.some.inj H
    go_enter Try.func60, Try.ntmps60
    go_wp2_with (first | ((with_reducible refine gate_dst (N := 2) rfl ?_); refine bx_ 2 #[.slice A0_0 l0_0.length c0_0, .slice A0_1 l0_1.length c0_1] 33 ?_; intro gb207 hg w11 hbox hb; have BK207 := Aside0.mk hbox; have GW207 := gw_ w hg; have GE207 := GW207; replace HB := b1_ hb; clear hb hbox hg) | ((with_reducible refine gate_dst (N := 3) rfl ?_); refine bx_ 3 #[.slice A1_0 l1_0.length c1_0, .slice A1_1 l1_1.length c1_1] 33 ?_; intro gb208 hg w12 hbox hb; have BK208 := Aside0.mk hbox; have GW208 := gw_ w hg; have GE208 := GW208; replace HB := b1_ hb; have NB207_208 := gN_ BK207 hg; have NB208_207 := gP_ BK207 hg; replace BK207 := bb_ BK207 hb; clear hb hbox hg; have hnb13 := NB207_208.out; have hnc13 := NB208_207.out; obtain ⟨hcz14_0, hcz14_1, hfz14_0, hfz14_1⟩ := c2_ BK207; obtain ⟨hcz15_0, hcz15_1, hfz15_0, hfz15_1⟩ := c2_ BK208) | ((with_reducible refine gate_callee (f := 54) rfl ?_); refine gL_ (some 10) Try.func54 #[.slice A0_0 l0_0.length c0_0, .slice A1_0 l1_0.length c1_0] rfl qa_ ?_; (with_reducible refine (slices_Compare_int_int.calls k _ _ l0_0 _ _ l1_0 t209 _ (cb_ HR0_0) HC0_0.out (cb_ HR1_0) HC1_0.out A3.out).mono ?_); rintro e w' ⟨rfl, ⟨nd, rfl⟩⟩; refine ⟨_, rfl, ?_⟩))
    go_ret
    exact ⟨qb_, hB_⟩
end Go.Proofs.Ytoijcallajegfaa.A
end
section
namespace Go.Proofs.Ytoijcallajegfaa.A
open Go.RowKit Go.Proofs.YtoijcallajegfaaW.PrintWords Go.Proofs.YtoijcallajegfaaW.PrintLast Go.Proofs.YtoijcallajegfaaW.PrintMore
attribute [local go_sem] max2_int min2_int max_two min_two max_three min_three max_four min_four
set_option linter.unusedVariables false
set_option linter.unusedSimpArgs false
def impl_Surface_59.l0 : Nat → List (S33) → Int → List Int → List Int → Option (List Int × List Int)
  | 0, _, _, _, _ => none
  | k + 1, x0, x6, x214000, x214001 => if x6 < (x0.length : Int) then (if 0 ≤ x6 then ((impl_compareSurfaces.f k ((rd_T33 x0 x6).f0) ((rd_T33 x0 x6).f1) x214000 x214001).bind fun t215 => (if t215 < 0 then (impl_Surface_59.l0 k x0 (wrap64 (x6 + 1)) ((rd_T33 x0 x6).f0) ((rd_T33 x0 x6).f1)) else (impl_Surface_59.l0 k x0 (wrap64 (x6 + 1)) x214000 x214001))) else (none)) else (some (x214000, x214001))
def impl_Surface_59.f (k : Nat) (l0 : List (S33)) : Option (List Int × List Int) := if (l0.length : Int) < 1 then (none) else (if 0 < (l0.length : Int) then (impl_Surface_59.l0 k l0 1 ((rd_T33 l0 0).f0) ((rd_T33 l0 0).f1)) else (none))
theorem impl_Surface_59.mono_l : ∀ k, (∀ y0 y1 y2 y3, LeO (impl_Surface_59.l0 k y0 y1 y2 y3) (impl_Surface_59.l0 (k + 1) y0 y1 y2 y3))
  | 0 => fun _ _ _ _ r h => by simp [impl_Surface_59.l0] at h
  | k + 1 => by
    have ih0 := impl_Surface_59.mono_l k
    · intro y0 y1 y2 y3
      unfold impl_Surface_59.l0
      repeat' first|exact ih0 _ _ _ _|exact impl_compareSurfaces.mono _ _ _ _ _|exact lo_|refine LeO.ite ?_ ?_|refine LeO.bind ?_ (fun _ => ?_)
theorem impl_Surface_59.mono : ∀ a0 k, LeO (impl_Surface_59.f k a0) (impl_Surface_59.f (k + 1) a0) := by
  intro a0 k
  have ih0 := impl_Surface_59.mono_l k
  unfold impl_Surface_59.f
  repeat' first|exact ih0 _ _ _ _|exact impl_compareSurfaces.mono _ _ _ _ _|exact lo_|refine LeO.ite ?_ ?_|refine LeO.bind ?_ (fun _ => ?_)
def impl_Surface_59.T7 : Bool × List (List Nat × List Nat) := (true, [([], []), ([], []), ([], []), ([1, 2], [1, 2]), ([3], [3]), ([], []), ([0, 4, 5], [0, 4, 5]), ([6], [6])])
def impl_Surface_59.B7 : List Nat := [0, 0, 0, 6, 14, 0, 63, 127]
theorem impl_Surface_59.tab7 : rtab .any (opsOf Try.f59 7) = impl_Surface_59.T7 := by kernel_rfl
theorem impl_Surface_59.bits7 : waitsOk impl_Surface_59.T7.2 impl_Surface_59.B7 = true := by kernel_rfl
def AtJ (w : World) (l0 : List S33) (A : Option Addr) (u0 u1 : Value) (x0 x1 : List Int) : Prop := ∃ (ad : Addr) (j : Nat), A = some ad ∧ j < l0.length ∧ w.cell? (ad.add (j * 2)) = some u0 ∧ w.cell? ⟨(ad.add (j * 2)).block, (ad.add (j * 2)).off + 1, none⟩ = some u1 ∧ x0 = (rd_T33 l0 (j : Int)).f0 ∧ x1 = (rd_T33 l0 (j : Int)).f1
theorem atJ_of {w w' : World} {P : Nat → Prop} {b : Nat} {ad : Addr} {c : Nat} {l0 : List S33} (hs0 : Kd.V k33 33 w b P (.slice (some ad) l0.length c) l0) (hB : Below w.heap.size w w') (i : Int) (h0 : 0 ≤ i) (h1 : i < (l0.length : Int)) {u0 u1 : Value} (hx0 : w'.cell? (ad.add (i.toNat * 2)) = some u0) (hx1 : w'.cell? ⟨(ad.add (i.toNat * 2)).block, (ad.add (i.toNat * 2)).off + 1, none⟩ = some u1) : AtJ w l0 (some ad) u0 u1 (rd_T33 l0 i).f0 (rd_T33 l0 i).f1 := by
  obtain ⟨ad', A0, c0, A1, c1, e, y0, y1, _⟩ := at_T33 (Kd.V_reads' hs0).2.2 i h0 h1
  injection e with e
  subst e
  have z0 := hB.cell (World.block_lt_of_cell? w _ y0)
  have z1 := hB.cell (World.block_lt_of_cell? w _ y1)
  have e : ((i.toNat : Nat) : Int) = i := Int.toNat_of_nonneg h0
  exact ⟨ad, i.toNat, rfl, by omega, z0.symm.trans hx0, z1.symm.trans hx1, by rw [e], by rw [e]⟩
theorem atJ_own {w w' : World} {base : Nat} {ok : Nat → Prop} {A : Option Addr} {c : Nat} {l0 : List S33} {u0 u1 : Value} {x0 x1 : List Int} (hS : Kd.S k33 33 w base ok (.slice A l0.length c) l0) (hJ : AtJ w l0 A u0 u1 x0 x1) (hB : Below w.heap.size w w') : Kd.R (Kd.int .i64) 3 w' base ok u0 x0 ∧ Kd.R (Kd.int .i64) 3 w' base ok u1 x1 ∧ NeRow u0 u1 := by
  obtain ⟨ad, j, rfl, hj, h0, h1, rfl, rfl⟩ := hJ
  obtain ⟨c, hcl, hM, hc⟩ := Kd.R_getA (Kd.S_R hS) z33 (j : Int) (by omega) (by omega)
  have hc' : ∀ i u, c[i]? = some u → w.cell? (ad.add (j * 2 + i)) = some u := hc
  obtain ⟨v0, v1, rfl, g0, g1, ne⟩ := k33_openN hM
  have e0 := hc' 0 v0 rfl
  have e1 := hc' 1 v1 rfl
  rw [add_field _ _ 1 (by omega)] at e1
  rw [Nat.add_zero] at e0
  obtain rfl : u0 = v0 := Option.some.inj (h0.symm.trans e0)
  obtain rfl : u1 = v1 := Option.some.inj (h1.symm.trans e1)
  exact ⟨Kd.R_mono (Kd.R_below g0 hB) (fun _ h => h.1), Kd.R_mono (Kd.R_below g1 hB) (fun _ h => h.1), ne⟩
set_option maxHeartbeats 8000000 in
set_option maxRecDepth 100000 in
theorem impl_Surface_59.calls (k : Nat) (P0_ : Nat → Prop) (A0 : Option Addr) (c0 : Nat) (l0 : List (S33)) (r1 : List Int) (r2 : List Int) (w : World) (hs0 : Kd.V k33 33 w w.heap.size (fun k_ => P0_ k_) (.slice A0 l0.length c0) l0) (h : impl_Surface_59.f k l0 = some (r1, r2)) :
    Calls Try.prog 59 #[.slice A0 l0.length c0, .func (.func 60) #[] #[]] w fun e w' => ∃ v0_ v1_ : Value, e = .returned (.agg #[v0_, v1_]) ∧ Kd.V (Kd.int .i64) 3 w' w.heap.size (fun k_ => (P0_ k_ ∨ w.heap.size ≤ k_)) v0_ r1 ∧ Kd.V (Kd.int .i64) 3 w' w.heap.size (fun k_ => (P0_ k_ ∨ w.heap.size ≤ k_)) v1_ r2 ∧ Below w.heap.size w w' ∧ AtJ w l0 A0 v0_ v1_ r1 r2 := by
  have HS0 := Aside0.mk hs0
  have hu33 := Try.underlying33
  have HO0 := Aside0.mk (show Kd.V k33 33 w w.heap.size (fun k_ => (P0_ k_ ∨ w.heap.size ≤ k_)) (.slice A0 l0.length c0) l0 from Kd.V_mono hs0 (fun k_ hk => .inl hk))
  have HB := Aside0.mk (Below.refl w.heap.size w)
  have H := h
  unfold impl_Surface_59.f at H
  clear h
  by_cases c2 : (l0.length : Int) < 1
  · rw [if_pos c2] at H
    exact absurd H (by simp)
  · rw [if_neg c2] at H
    have c2b0 := decide_eq_false c2
    have c2b1 : decide (l0.length < 1) = false := decide_eq_false (by omega)
    clear c2
    have c3 := cp_ H
    replace H := ca_ H
    have c3b0 := decide_eq_true c3
    have c3b1 : decide (0 < l0.length) = true := decide_eq_true (by omega)
    clear c3
    have H' := Aside0.mk H
    clear H
    go_enter Try.func59, Try.ntmps59
    go_wp2_with (first | ((with_reducible refine gate_dst (N := 4) rfl ?_); refine bx_ 4 #[.slice none 0 0, .slice none 0 0] 33 ?_; intro gb211 hg w4 hbox hb; replace HO0 := Aside0.mk (Kd.V_below (Kd.V_elderB (by (with_reducible repeat (first | apply Kd.V_alloc | apply Kd.V_drewN | apply Kd.V_drew)); exact HO0.out) gb211 (Nat.le_of_eq hg.symm)) hb); have BK211 := Aside0.mk hbox; have GW211 := gw_ w hg; have GE211 := GW211; replace HB := b1_ hb; clear hb hbox hg; have p212 : 0 ≤ (0 : Int) := (by omega); have q212 : 0 < (l0.length : Int) := of_decide_eq_true qe_; obtain ⟨ad212, A212_0, c212_0, A212_1, c212_1, e212, hx212_0, hx212_1, hl212_0, hi212_0, hl212_1, hi212_1⟩ := at_T33 (Kd.V_reads' HO0.out).2.2 0 p212 q212; cases e212; obtain ⟨ce212, hce212, hMe212, hcc212⟩ := Kd.V_get HO0.out z33 0 p212 (by first | exact q212 | exact of_decide_eq_true qe_ | (have e_ := (Kd.V_reads' HO0.out).1; omega)); obtain ⟨ua212_0, uc212_0, ua212_1, uc212_1, rfl, ul212_0, ge212_0, ul212_1, ge212_1⟩ := k33_openF hMe212; have hv212_0 := hcc212 0 _ rfl; rw [Nat.add_zero] at hv212_0; replace hv212_0 := Option.some.inj (hv212_0.symm.trans hx212_0); injection hv212_0 with hva_ hvn_ hvc_; rw [hva_] at ge212_0; rw [hvc_] at ul212_0; have HL212_0 := Aside0.mk (show Kd.V (Kd.int .i64) 3 _ w.heap.size _ _ ((rd_T33 l0 0).f0) from Kd.V_mk ul212_0 ge212_0); clear hva_ hvn_ hvc_ ge212_0 ul212_0; have hv212_1 := hcc212 1 _ rfl; rw [add_field _ _ 1 (by omega)] at hv212_1; replace hv212_1 := Option.some.inj (hv212_1.symm.trans hx212_1); injection hv212_1 with hva_ hvn_ hvc_; rw [hva_] at ge212_1; rw [hvc_] at ul212_1; have HL212_1 := Aside0.mk (show Kd.V (Kd.int .i64) 3 _ w.heap.size _ _ ((rd_T33 l0 0).f1) from Kd.V_mk ul212_1 ge212_1); clear hva_ hvn_ hvc_ ge212_1 ul212_1; clear hcc212 hce212; have HJ := Aside0.mk (atJ_of HS0.out hB_ 0 p212 q212 hx212_0 hx212_1); have qi212 : (0 < l0.length) = True := eq_true (by omega); (try rw [show ((0 : Int)).toNat = 0 from rfl] at hx212_0); (try rw [show 0 * 2 = 0 from rfl] at hx212_0); (try rw [Addr.add_zero'] at hx212_0); (try rw [show ((0 : Int)).toNat = 0 from rfl] at hx212_1); (try rw [show 0 * 2 = 0 from rfl] at hx212_1); (try rw [Addr.add_zero'] at hx212_1); have HR212_0 := Aside0.mk hi212_0; have HC212_0 := Aside0.mk hl212_0; clear hi212_0 hl212_0; have HR212_1 := Aside0.mk hi212_1; have HC212_1 := Aside0.mk hl212_1; clear hi212_1 hl212_1; replace p212 := eq_true p212; replace q212 := eq_true q212) | ((with_reducible refine gate_dst (N := 5) rfl ?_); refine bx_ 5 #[.slice none 0 0, .slice none 0 0] 33 ?_; intro gb213 hg w5 hbox hb; replace HO0 := Aside0.mk (Kd.V_below (Kd.V_elderB (by (with_reducible repeat (first | apply Kd.V_alloc | apply Kd.V_drewN | apply Kd.V_drew)); exact HO0.out) gb213 (Nat.le_of_eq hg.symm)) hb); replace HL212_0 := Aside0.mk (Kd.V_below (Kd.V_elderB (by (with_reducible repeat (first | apply Kd.V_alloc | apply Kd.V_drewN | apply Kd.V_drew)); exact HL212_0.out) gb213 (Nat.le_of_eq hg.symm)) hb); replace HL212_1 := Aside0.mk (Kd.V_below (Kd.V_elderB (by (with_reducible repeat (first | apply Kd.V_alloc | apply Kd.V_drewN | apply Kd.V_drew)); exact HL212_1.out) gb213 (Nat.le_of_eq hg.symm)) hb); have BK213 := Aside0.mk hbox; have GW213 := gw_ w hg; have GE213 := GW213; replace HB := b1_ hb; have NB211_213 := gN_ BK211 hg; have NB213_211 := gP_ BK211 hg; replace BK211 := bb_ BK211 hb; clear hb hbox hg; have hnb6 := NB213_211.out; have hnc6 := NB211_213.out; obtain ⟨hcz7_0, hcz7_1, hfz7_0, hfz7_1⟩ := c2_ BK213))
    go_loopg [6] k (fun kq v6 w' => ∃ (x6_1 : Int) (x214000_1 : List Int) (x214001_1 : List Int) (u214000 : Value) (u214001 : Value), v6 = .int .i64 x6_1 ∧ Aside0 (impl_Surface_59.l0 kq l0 x6_1 x214000_1 x214001_1 = some (r1, r2)) ∧ Aside0 (kq ≤ k) ∧ Aside0 (Kd.V k33 33 w' w.heap.size (fun k_ => (P0_ k_ ∨ w.heap.size ≤ k_) ∧ k_ ≠ gb211 ∧ k_ ≠ gb213) (.slice (some ad212) l0.length c0) l0) ∧ Aside0 (Kd.V (Kd.int .i64) 3 w' w.heap.size (fun k_ => (P0_ k_ ∨ w.heap.size ≤ k_) ∧ k_ ≠ gb211 ∧ k_ ≠ gb213) u214000 x214000_1) ∧ Aside0 (Kd.V (Kd.int .i64) 3 w' w.heap.size (fun k_ => (P0_ k_ ∨ w.heap.size ≤ k_) ∧ k_ ≠ gb211 ∧ k_ ≠ gb213) u214001 x214001_1) ∧ Aside0 (w'.heap[gb211]? = some (.cells #[(.slice none 0 0), (.slice none 0 0)] 33 (0, 0))) ∧ Aside0 (w'.heap[gb213]? = some (.cells #[u214000, u214001] 33 (0, 0))) ∧ Aside0 (Below w.heap.size w w') ∧ Aside0 (AtJ w l0 (some ad212) u214000 u214001 x214000_1 x214001_1))
    case atStart => exact ⟨(1), ((rd_T33 l0 0).f0), ((rd_T33 l0 0).f1), (.slice A212_0 ((rd_T33 l0 0).f0).length c212_0), (.slice A212_1 ((rd_T33 l0 0).f1).length c212_1), qc_, H', ⟨Nat.le_refl _⟩, ⟨by (with_reducible repeat (first | apply Kd.V_alloc | apply Kd.V_drewN | apply Kd.V_drew)); exact Kd.V_mono (Kd.V_far (p := ⟨gb213, 1, none⟩) (Kd.V_far (p := ⟨gb213, 0, none⟩) (Kd.V_mono HO0.out (fun k_ hk => (⟨hk, hk.2⟩ : _ ∧ k_ ≠ gb213))) (fun _ hk => hk.2) (.slice A212_0 ((rd_T33 l0 0).f0).length c212_0)) (fun _ hk => hk.2) (.slice A212_1 ((rd_T33 l0 0).f1).length c212_1)) (fun _ hk => ⟨hk.1.1.1, ⟨hk.1.1.2, hk.1.2⟩⟩)⟩, ⟨by (with_reducible repeat (first | apply Kd.V_alloc | apply Kd.V_drewN | apply Kd.V_drew)); exact Kd.V_mono (Kd.V_far (p := ⟨gb213, 1, none⟩) (Kd.V_far (p := ⟨gb213, 0, none⟩) (Kd.V_mono HL212_0.out (fun k_ hk => (⟨hk, hk.2⟩ : _ ∧ k_ ≠ gb213))) (fun _ hk => hk.2) (.slice A212_0 ((rd_T33 l0 0).f0).length c212_0)) (fun _ hk => hk.2) (.slice A212_1 ((rd_T33 l0 0).f1).length c212_1)) (fun _ hk => ⟨hk.1.1.1, ⟨hk.1.1.2, hk.1.2⟩⟩)⟩, ⟨by (with_reducible repeat (first | apply Kd.V_alloc | apply Kd.V_drewN | apply Kd.V_drew)); exact Kd.V_mono (Kd.V_far (p := ⟨gb213, 1, none⟩) (Kd.V_far (p := ⟨gb213, 0, none⟩) (Kd.V_mono HL212_1.out (fun k_ hk => (⟨hk, hk.2⟩ : _ ∧ k_ ≠ gb213))) (fun _ hk => hk.2) (.slice A212_0 ((rd_T33 l0 0).f0).length c212_0)) (fun _ hk => hk.2) (.slice A212_1 ((rd_T33 l0 0).f1).length c212_1)) (fun _ hk => ⟨hk.1.1.1, ⟨hk.1.1.2, hk.1.2⟩⟩)⟩, ⟨by (with_reducible repeat (first | refine blk_drewN ?_ _ | refine blk_drew ?_ | refine blk_alloc ?_ _)); refine blk_far ?_ NB211_213.out _; (with_reducible repeat (first | refine blk_drewN ?_ _ | refine blk_drew ?_ | refine blk_alloc ?_ _)); refine blk_far ?_ NB211_213.out _; (with_reducible repeat (first | refine blk_drewN ?_ _ | refine blk_drew ?_ | refine blk_alloc ?_ _)); exact BK211.out⟩, ⟨qp_⟩, ⟨hB_⟩, HJ⟩
    case round =>
      clear H'
      obtain ⟨x6_1, x214000_1, x214001_1, u214000, u214001, rfl, HA, HK1, HO_0, HO_214000, HO_214001, BK211, BK213, HB, HJ⟩ := hrel
      cases gk with
      | zero => exact absurd HA.out (by simp [impl_Surface_59.l0])
      | succ k1 =>
        have H := HA.out
        clear HA
        simp only [impl_Surface_59.l0] at H
        by_cases c8 : x6_1 < (l0.length : Int)
        · rw [if_pos c8] at H
          have c8b0 := decide_eq_true c8
          clear c8
          have c9 := cp_ H
          replace H := ca_ H
          have c9b0 := decide_eq_true c9
          clear c9
          obtain ⟨t215, A10, H⟩ := bi_ H
          by_cases c11 : t215 < 0
          · rw [if_pos c11] at H
            have c11b0 := decide_eq_true c11
            clear c11
            have H' := Aside0.mk H
            clear H
            try go_wp2
            replace HO_0 := Aside0.mk (Kd.V_drew HO_0.out)
            replace HO_214000 := Aside0.mk (Kd.V_drew HO_214000.out)
            replace HO_214001 := Aside0.mk (Kd.V_drew HO_214001.out)
            replace BK211 := Aside0.mk (blk_drew BK211.out)
            replace BK213 := Aside0.mk (blk_drew BK213.out)
            replace HB := Aside0.mk (below_drew1 HB.out)
            have p214 : 0 ≤ (x6_1 : Int) := of_decide_eq_true qe_
            have q214 : x6_1 < (l0.length : Int) := of_decide_eq_true qe_
            obtain ⟨ad214, A214_0, c214_0, A214_1, c214_1, e214, hx214_0, hx214_1, hl214_0, hi214_0, hl214_1, hi214_1⟩ := at_T33 (Kd.V_reads' HO_0.out).2.2 x6_1 p214 q214
            obtain rfl : ad212 = ad214 := (by injection e214)
            obtain ⟨ce214, hce214, hMe214, hcc214⟩ := Kd.V_get HO_0.out z33 x6_1 p214 (by first | exact q214 | exact of_decide_eq_true qe_ | (have e_ := (Kd.V_reads' HO_0.out).1; omega))
            obtain ⟨ua214_0, uc214_0, ua214_1, uc214_1, rfl, ul214_0, ge214_0, ul214_1, ge214_1⟩ := k33_openF hMe214
            have hv214_0 := hcc214 0 _ rfl
            rw [Nat.add_zero] at hv214_0
            replace hv214_0 := Option.some.inj (hv214_0.symm.trans hx214_0)
            injection hv214_0 with hva_ hvn_ hvc_
            rw [hva_] at ge214_0
            rw [hvc_] at ul214_0
            have HL214_0 := Aside0.mk (show Kd.V (Kd.int .i64) 3 _ w.heap.size _ _ ((rd_T33 l0 x6_1).f0) from Kd.V_mk ul214_0 ge214_0)
            clear hva_ hvn_ hvc_ ge214_0 ul214_0
            have hv214_1 := hcc214 1 _ rfl
            rw [add_field _ _ 1 (by omega)] at hv214_1
            replace hv214_1 := Option.some.inj (hv214_1.symm.trans hx214_1)
            injection hv214_1 with hva_ hvn_ hvc_
            rw [hva_] at ge214_1
            rw [hvc_] at ul214_1
            have HL214_1 := Aside0.mk (show Kd.V (Kd.int .i64) 3 _ w.heap.size _ _ ((rd_T33 l0 x6_1).f1) from Kd.V_mk ul214_1 ge214_1)
            clear hva_ hvn_ hvc_ ge214_1 ul214_1
            clear hcc214 hce214
            have HJ214 := Aside0.mk (atJ_of HS0.out hB_ x6_1 p214 q214 hx214_0 hx214_1)
            have HR214_0 := Aside0.mk hi214_0
            have HC214_0 := Aside0.mk hl214_0
            clear hi214_0 hl214_0
            have HR214_1 := Aside0.mk hi214_1
            have HC214_1 := Aside0.mk hl214_1
            clear hi214_1 hl214_1
            replace p214 := eq_true p214
            replace q214 := eq_true q214
            obtain ⟨Ao13, co13, eo13⟩ := Kd.V_slice HO_214000.out
            (first | subst eo13 | (injection eo13 with f1_ f2_ f3_; have f4_ := f1_.symm; have f5_ := f3_.symm; clear f1_ f2_ f3_; subst f4_; subst f5_))
            obtain ⟨Ao14, co14, eo14⟩ := Kd.V_slice HO_214001.out
            (first | subst eo14 | (injection eo14 with f1_ f2_ f3_; have f4_ := f1_.symm; have f5_ := f3_.symm; clear f1_ f2_ f3_; subst f4_; subst f5_))
            refine start_ (n := 8) (S := fun w' => w'.cell? ⟨gb213, 0, none⟩ = some (.slice Ao13 x214000_1.length co13) ∧ w'.cell? ⟨gb213, 1, none⟩ = some (.slice Ao14 x214001_1.length co14) ∧ w'.cell? (ad212.add ((x6_1).toNat * 2)) = some (.slice A214_0 ((rd_T33 l0 x6_1).f0).length c214_0) ∧ w'.cell? ⟨(ad212.add ((x6_1).toNat * 2)).block, (ad212.add ((x6_1).toNat * 2)).off + 1, none⟩ = some (.slice A214_1 ((rd_T33 l0 x6_1).f1).length c214_1)) (ds := []) (bl_ 8 0) (by kernel_rfl) rfl (by kernel_rfl) ⟨cz0_ BK213, cz1_ BK213, hx214_0, hx214_1⟩ (fun hHeld => ?_); refine with_tabW impl_Surface_59.tab7 impl_Surface_59.bits7 (fun HT_ HW_ => ?_)
            generalize wr.drew = w12 at HO_0 HO_214000 HO_214001 BK211 BK213 HB HL214_0 HL214_1 HR214_0 HR214_1 hx214_0 hx214_1 hHeld ⊢
            refine pu_ 0 (some 20) (bl_ 8 1) HT_ ?_
            refine pu_ 1 (some 21) (bl_ 8 3) HT_ ?_
            refine pu_ 2 (some 22) (bl_ 8 7) HT_ ?_
            refine pu_ 3 (some 23) (bl_ 8 15) HT_ ?_
            refine ta_ 4 (some 24) (bl_ 8 31) HT_ HW_ hHeld ?_
            refine ta_ 5 (some 25) (bl_ 8 63) HT_ HW_ hHeld ?_
            refine on_ 6 (some 26) (bl_ 8 127) HT_ (fun K hK => ?_)
            refine goesF_ Try.func60 (by kernel_rfl) rfl #[.agg #[.slice A214_0 ((rd_T33 l0 x6_1).f0).length c214_0, .slice A214_1 ((rd_T33 l0 x6_1).f1).length c214_1], .agg #[.slice Ao13 x214000_1.length co13, .slice Ao14 x214001_1.length co14]] (by rfl) rfl rfl qa_ ?_
            with_reducible refine (impl_compareSurfaces.calls k1 _ _ ((rd_T33 l0 x6_1).f0) _ _ ((rd_T33 l0 x6_1).f1) _ _ x214000_1 _ _ x214001_1 t215 _ ?side1 ?side2 ?side3 ?side4 ?side5 ?side6 ?side7 ?side8 A10.out).mono ?_
            (case side1 => repeat (first | exact (by repeat (first | (with_reducible exact HR214_0.out) | (with_reducible refine Kd.C_alloc ?_ _) | (with_reducible refine Kd.C_drewN ?_ _) | (with_reducible refine Kd.C_drew ?_) | exact HR214_0.out)) | (with_reducible refine Kd.C_alloc ?_ _) | (with_reducible refine Kd.C_drewN ?_ _) | (with_reducible refine Kd.C_drew ?_)))
            (case side2 => exact HC214_0.out)
            (case side3 => repeat (first | exact (by repeat (first | (with_reducible exact HR214_1.out) | (with_reducible refine Kd.C_alloc ?_ _) | (with_reducible refine Kd.C_drewN ?_ _) | (with_reducible refine Kd.C_drew ?_) | exact HR214_1.out)) | (with_reducible refine Kd.C_alloc ?_ _) | (with_reducible refine Kd.C_drewN ?_ _) | (with_reducible refine Kd.C_drew ?_)))
            (case side4 => exact HC214_1.out)
            (case side5 => exact cw_ ((Kd.V_reads' HO_214000.out).2.2))
            (case side6 => exact (Kd.V_reads' HO_214000.out).2.1)
            (case side7 => exact cw_ ((Kd.V_reads' HO_214001.out).2.2))
            (case side8 => exact (Kd.V_reads' HO_214001.out).2.1)
            rintro e w15 ⟨rfl, hb⟩
            have HS2_ := (hb.cell (World.block_lt_of_cell? _ _ (hHeld.2.2.1))).trans (hHeld.2.2.1)
            have HS3_ := (hb.cell (World.block_lt_of_cell? _ _ (hHeld.2.2.2))).trans (hHeld.2.2.2)
            refine ⟨_, rfl, ?_⟩
            replace HO_0 := Aside0.mk (Kd.V_below (by (with_reducible repeat (first | apply Kd.V_alloc | apply Kd.V_drewN | apply Kd.V_drew)); exact HO_0.out) hb)
            replace HO_214000 := Aside0.mk (Kd.V_below (by (with_reducible repeat (first | apply Kd.V_alloc | apply Kd.V_drewN | apply Kd.V_drew)); exact HO_214000.out) hb)
            replace HO_214001 := Aside0.mk (Kd.V_below (by (with_reducible repeat (first | apply Kd.V_alloc | apply Kd.V_drewN | apply Kd.V_drew)); exact HO_214001.out) hb)
            replace HL214_0 := Aside0.mk (Kd.V_below (by (with_reducible repeat (first | apply Kd.V_alloc | apply Kd.V_drewN | apply Kd.V_drew)); exact HL214_0.out) hb)
            replace HL214_1 := Aside0.mk (Kd.V_below (by (with_reducible repeat (first | apply Kd.V_alloc | apply Kd.V_drewN | apply Kd.V_drew)); exact HL214_1.out) hb)
            replace BK211 := bb_ BK211 hb
            replace BK213 := bb_ BK213 hb
            replace HR214_0 := Aside0.mk (Kd.C_below (by repeat (first | (with_reducible exact HR214_0.out) | (with_reducible refine Kd.C_alloc ?_ _) | (with_reducible refine Kd.C_drewN ?_ _) | (with_reducible refine Kd.C_drew ?_) | exact HR214_0.out)) hb)
            replace HR214_1 := Aside0.mk (Kd.C_below (by repeat (first | (with_reducible exact HR214_1.out) | (with_reducible refine Kd.C_alloc ?_ _) | (with_reducible refine Kd.C_drewN ?_ _) | (with_reducible refine Kd.C_drew ?_) | exact HR214_1.out)) hb)
            replace HB := b1_ hb
            clear hb
            refine hK.out _ _ ⟨cz0_ BK213, cz1_ BK213, HS2_, HS3_⟩ (fun hHeld => ?_)
            clear hK K
            refine no_ (some 26) ?_
            refine pu_ 7 (some 27) (bl_ 8 255) HT_ ?_
            refine done_ (done_of HT_.out (by kernel_rfl)) ?_
            have p216 : 0 ≤ (x6_1 : Int) := of_decide_eq_true qe_
            have q216 : x6_1 < (l0.length : Int) := of_decide_eq_true qe_
            obtain ⟨ad216, A216_0, c216_0, A216_1, c216_1, e216, hx216_0, hx216_1, hl216_0, hi216_0, hl216_1, hi216_1⟩ := at_T33 (Kd.V_reads' HO_0.out).2.2 x6_1 p216 q216
            obtain rfl : ad212 = ad216 := (by injection e216)
            have e0_ := Option.some.inj (hx216_0.symm.trans hHeld.2.2.1)
            injection e0_ with f1_ f2_ f3_
            have e1_ := Option.some.inj (hx216_1.symm.trans hHeld.2.2.2)
            injection e1_ with f4_ f5_ f6_
            subst f1_ f3_ f4_ f6_
            clear f2_ f5_
            obtain ⟨ce216, hce216, hMe216, hcc216⟩ := Kd.V_get HO_0.out z33 x6_1 p216 (by first | exact q216 | exact of_decide_eq_true qe_ | (have e_ := (Kd.V_reads' HO_0.out).1; omega))
            obtain ⟨ua216_0, uc216_0, ua216_1, uc216_1, rfl, ul216_0, ge216_0, ul216_1, ge216_1⟩ := k33_openF hMe216
            have hv216_0 := hcc216 0 _ rfl
            rw [Nat.add_zero] at hv216_0
            replace hv216_0 := Option.some.inj (hv216_0.symm.trans hx216_0)
            injection hv216_0 with hva_ hvn_ hvc_
            rw [hva_] at ge216_0
            rw [hvc_] at ul216_0
            have HL216_0 := Aside0.mk (show Kd.V (Kd.int .i64) 3 _ w.heap.size _ _ ((rd_T33 l0 x6_1).f0) from Kd.V_mk ul216_0 ge216_0)
            clear hva_ hvn_ hvc_ ge216_0 ul216_0
            have hv216_1 := hcc216 1 _ rfl
            rw [add_field _ _ 1 (by omega)] at hv216_1
            replace hv216_1 := Option.some.inj (hv216_1.symm.trans hx216_1)
            injection hv216_1 with hva_ hvn_ hvc_
            rw [hva_] at ge216_1
            rw [hvc_] at ul216_1
            have HL216_1 := Aside0.mk (show Kd.V (Kd.int .i64) 3 _ w.heap.size _ _ ((rd_T33 l0 x6_1).f1) from Kd.V_mk ul216_1 ge216_1)
            clear hva_ hvn_ hvc_ ge216_1 ul216_1
            clear hcc216 hce216
            have HJ216 := Aside0.mk (atJ_of HS0.out hB_ x6_1 p216 q216 hx216_0 hx216_1)
            have HR216_0 := Aside0.mk hi216_0
            have HC216_0 := Aside0.mk hl216_0
            clear hi216_0 hl216_0
            have HR216_1 := Aside0.mk hi216_1
            have HC216_1 := Aside0.mk hl216_1
            clear hi216_1 hl216_1
            replace p216 := eq_true p216
            replace q216 := eq_true q216
            have hnb16 := NB213_211.out
            have hnc16 := NB211_213.out
            obtain ⟨hcz17_0, hcz17_1, hfz17_0, hfz17_1⟩ := c2_ BK213
            try go_wp2
            go_roundg k1
            case measure => have := HK1.out; omega
            case rel => exact ⟨(wrap64 (x6_1 + 1)), ((rd_T33 l0 x6_1).f0), ((rd_T33 l0 x6_1).f1), (.slice A216_0 ((rd_T33 l0 x6_1).f0).length c216_0), (.slice A216_1 ((rd_T33 l0 x6_1).f1).length c216_1), qc_, H', ⟨by have := HK1.out; omega⟩, ⟨by (with_reducible repeat (first | apply Kd.V_alloc | apply Kd.V_drewN | apply Kd.V_drew)); exact Kd.V_mono (Kd.V_far (p := ⟨gb213, 1, none⟩) (Kd.V_far (p := ⟨gb213, 0, none⟩) (Kd.V_mono HO_0.out (fun k_ hk => (⟨hk, hk.2.2⟩ : _ ∧ k_ ≠ gb213))) (fun _ hk => hk.2) (.slice A216_0 ((rd_T33 l0 x6_1).f0).length c216_0)) (fun _ hk => hk.2) (.slice A216_1 ((rd_T33 l0 x6_1).f1).length c216_1)) (fun _ hk => ⟨hk.1.1, ⟨hk.1.2.1, hk.1.2.2⟩⟩)⟩, ⟨by (with_reducible repeat (first | apply Kd.V_alloc | apply Kd.V_drewN | apply Kd.V_drew)); exact Kd.V_mono (Kd.V_far (p := ⟨gb213, 1, none⟩) (Kd.V_far (p := ⟨gb213, 0, none⟩) (Kd.V_mono HL216_0.out (fun k_ hk => (⟨hk, hk.2.2⟩ : _ ∧ k_ ≠ gb213))) (fun _ hk => hk.2) (.slice A216_0 ((rd_T33 l0 x6_1).f0).length c216_0)) (fun _ hk => hk.2) (.slice A216_1 ((rd_T33 l0 x6_1).f1).length c216_1)) (fun _ hk => ⟨hk.1.1, ⟨hk.1.2.1, hk.1.2.2⟩⟩)⟩, ⟨by (with_reducible repeat (first | apply Kd.V_alloc | apply Kd.V_drewN | apply Kd.V_drew)); exact Kd.V_mono (Kd.V_far (p := ⟨gb213, 1, none⟩) (Kd.V_far (p := ⟨gb213, 0, none⟩) (Kd.V_mono HL216_1.out (fun k_ hk => (⟨hk, hk.2.2⟩ : _ ∧ k_ ≠ gb213))) (fun _ hk => hk.2) (.slice A216_0 ((rd_T33 l0 x6_1).f0).length c216_0)) (fun _ hk => hk.2) (.slice A216_1 ((rd_T33 l0 x6_1).f1).length c216_1)) (fun _ hk => ⟨hk.1.1, ⟨hk.1.2.1, hk.1.2.2⟩⟩)⟩, ⟨by (with_reducible repeat (first | refine blk_drewN ?_ _ | refine blk_drew ?_ | refine blk_alloc ?_ _)); refine blk_far ?_ NB211_213.out _; (with_reducible repeat (first | refine blk_drewN ?_ _ | refine blk_drew ?_ | refine blk_alloc ?_ _)); refine blk_far ?_ NB211_213.out _; (with_reducible repeat (first | refine blk_drewN ?_ _ | refine blk_drew ?_ | refine blk_alloc ?_ _)); exact BK211.out⟩, ⟨qp_⟩, ⟨hB_⟩, HJ216⟩
          · rw [if_neg c11] at H
            have c11b0 := decide_eq_false c11
            clear c11
            have H' := Aside0.mk H
            clear H
            try go_wp2
            replace HO_0 := Aside0.mk (Kd.V_drew HO_0.out)
            replace HO_214000 := Aside0.mk (Kd.V_drew HO_214000.out)
            replace HO_214001 := Aside0.mk (Kd.V_drew HO_214001.out)
            replace BK211 := Aside0.mk (blk_drew BK211.out)
            replace BK213 := Aside0.mk (blk_drew BK213.out)
            replace HB := Aside0.mk (below_drew1 HB.out)
            have p214 : 0 ≤ (x6_1 : Int) := of_decide_eq_true qe_
            have q214 : x6_1 < (l0.length : Int) := of_decide_eq_true qe_
            obtain ⟨ad214, A214_0, c214_0, A214_1, c214_1, e214, hx214_0, hx214_1, hl214_0, hi214_0, hl214_1, hi214_1⟩ := at_T33 (Kd.V_reads' HO_0.out).2.2 x6_1 p214 q214
            obtain rfl : ad212 = ad214 := (by injection e214)
            obtain ⟨ce214, hce214, hMe214, hcc214⟩ := Kd.V_get HO_0.out z33 x6_1 p214 (by first | exact q214 | exact of_decide_eq_true qe_ | (have e_ := (Kd.V_reads' HO_0.out).1; omega))
            obtain ⟨ua214_0, uc214_0, ua214_1, uc214_1, rfl, ul214_0, ge214_0, ul214_1, ge214_1⟩ := k33_openF hMe214
            have hv214_0 := hcc214 0 _ rfl
            rw [Nat.add_zero] at hv214_0
            replace hv214_0 := Option.some.inj (hv214_0.symm.trans hx214_0)
            injection hv214_0 with hva_ hvn_ hvc_
            rw [hva_] at ge214_0
            rw [hvc_] at ul214_0
            have HL214_0 := Aside0.mk (show Kd.V (Kd.int .i64) 3 _ w.heap.size _ _ ((rd_T33 l0 x6_1).f0) from Kd.V_mk ul214_0 ge214_0)
            clear hva_ hvn_ hvc_ ge214_0 ul214_0
            have hv214_1 := hcc214 1 _ rfl
            rw [add_field _ _ 1 (by omega)] at hv214_1
            replace hv214_1 := Option.some.inj (hv214_1.symm.trans hx214_1)
            injection hv214_1 with hva_ hvn_ hvc_
            rw [hva_] at ge214_1
            rw [hvc_] at ul214_1
            have HL214_1 := Aside0.mk (show Kd.V (Kd.int .i64) 3 _ w.heap.size _ _ ((rd_T33 l0 x6_1).f1) from Kd.V_mk ul214_1 ge214_1)
            clear hva_ hvn_ hvc_ ge214_1 ul214_1
            clear hcc214 hce214
            have HJ214 := Aside0.mk (atJ_of HS0.out hB_ x6_1 p214 q214 hx214_0 hx214_1)
            have HR214_0 := Aside0.mk hi214_0
            have HC214_0 := Aside0.mk hl214_0
            clear hi214_0 hl214_0
            have HR214_1 := Aside0.mk hi214_1
            have HC214_1 := Aside0.mk hl214_1
            clear hi214_1 hl214_1
            replace p214 := eq_true p214
            replace q214 := eq_true q214
            obtain ⟨Ao19, co19, eo19⟩ := Kd.V_slice HO_214000.out
            (first | subst eo19 | (injection eo19 with f1_ f2_ f3_; have f4_ := f1_.symm; have f5_ := f3_.symm; clear f1_ f2_ f3_; subst f4_; subst f5_))
            obtain ⟨Ao20, co20, eo20⟩ := Kd.V_slice HO_214001.out
            (first | subst eo20 | (injection eo20 with f1_ f2_ f3_; have f4_ := f1_.symm; have f5_ := f3_.symm; clear f1_ f2_ f3_; subst f4_; subst f5_))
            refine start_ (n := 8) (S := fun w' => w'.cell? ⟨gb213, 0, none⟩ = some (.slice Ao19 x214000_1.length co19) ∧ w'.cell? ⟨gb213, 1, none⟩ = some (.slice Ao20 x214001_1.length co20) ∧ w'.cell? (ad212.add ((x6_1).toNat * 2)) = some (.slice A214_0 ((rd_T33 l0 x6_1).f0).length c214_0) ∧ w'.cell? ⟨(ad212.add ((x6_1).toNat * 2)).block, (ad212.add ((x6_1).toNat * 2)).off + 1, none⟩ = some (.slice A214_1 ((rd_T33 l0 x6_1).f1).length c214_1)) (ds := []) (bl_ 8 0) (by kernel_rfl) rfl (by kernel_rfl) ⟨cz0_ BK213, cz1_ BK213, hx214_0, hx214_1⟩ (fun hHeld => ?_); refine with_tabW impl_Surface_59.tab7 impl_Surface_59.bits7 (fun HT_ HW_ => ?_)
            generalize wr.drew = w18 at HO_0 HO_214000 HO_214001 BK211 BK213 HB HL214_0 HL214_1 HR214_0 HR214_1 hx214_0 hx214_1 hHeld ⊢
            refine pu_ 0 (some 20) (bl_ 8 1) HT_ ?_
            refine pu_ 1 (some 21) (bl_ 8 3) HT_ ?_
            refine pu_ 2 (some 22) (bl_ 8 7) HT_ ?_
            refine pu_ 3 (some 23) (bl_ 8 15) HT_ ?_
            refine ta_ 4 (some 24) (bl_ 8 31) HT_ HW_ hHeld ?_
            refine ta_ 5 (some 25) (bl_ 8 63) HT_ HW_ hHeld ?_
            refine on_ 6 (some 26) (bl_ 8 127) HT_ (fun K hK => ?_)
            refine goesF_ Try.func60 (by kernel_rfl) rfl #[.agg #[.slice A214_0 ((rd_T33 l0 x6_1).f0).length c214_0, .slice A214_1 ((rd_T33 l0 x6_1).f1).length c214_1], .agg #[.slice Ao19 x214000_1.length co19, .slice Ao20 x214001_1.length co20]] (by rfl) rfl rfl qa_ ?_
            with_reducible refine (impl_compareSurfaces.calls k1 _ _ ((rd_T33 l0 x6_1).f0) _ _ ((rd_T33 l0 x6_1).f1) _ _ x214000_1 _ _ x214001_1 t215 _ ?side1 ?side2 ?side3 ?side4 ?side5 ?side6 ?side7 ?side8 A10.out).mono ?_
            (case side1 => repeat (first | exact (by repeat (first | (with_reducible exact HR214_0.out) | (with_reducible refine Kd.C_alloc ?_ _) | (with_reducible refine Kd.C_drewN ?_ _) | (with_reducible refine Kd.C_drew ?_) | exact HR214_0.out)) | (with_reducible refine Kd.C_alloc ?_ _) | (with_reducible refine Kd.C_drewN ?_ _) | (with_reducible refine Kd.C_drew ?_)))
            (case side2 => exact HC214_0.out)
            (case side3 => repeat (first | exact (by repeat (first | (with_reducible exact HR214_1.out) | (with_reducible refine Kd.C_alloc ?_ _) | (with_reducible refine Kd.C_drewN ?_ _) | (with_reducible refine Kd.C_drew ?_) | exact HR214_1.out)) | (with_reducible refine Kd.C_alloc ?_ _) | (with_reducible refine Kd.C_drewN ?_ _) | (with_reducible refine Kd.C_drew ?_)))
            (case side4 => exact HC214_1.out)
            (case side5 => exact cw_ ((Kd.V_reads' HO_214000.out).2.2))
            (case side6 => exact (Kd.V_reads' HO_214000.out).2.1)
            (case side7 => exact cw_ ((Kd.V_reads' HO_214001.out).2.2))
            (case side8 => exact (Kd.V_reads' HO_214001.out).2.1)
            rintro e w21 ⟨rfl, hb⟩
            have HS2_ := (hb.cell (World.block_lt_of_cell? _ _ (hHeld.2.2.1))).trans (hHeld.2.2.1)
            have HS3_ := (hb.cell (World.block_lt_of_cell? _ _ (hHeld.2.2.2))).trans (hHeld.2.2.2)
            refine ⟨_, rfl, ?_⟩
            replace HO_0 := Aside0.mk (Kd.V_below (by (with_reducible repeat (first | apply Kd.V_alloc | apply Kd.V_drewN | apply Kd.V_drew)); exact HO_0.out) hb)
            replace HO_214000 := Aside0.mk (Kd.V_below (by (with_reducible repeat (first | apply Kd.V_alloc | apply Kd.V_drewN | apply Kd.V_drew)); exact HO_214000.out) hb)
            replace HO_214001 := Aside0.mk (Kd.V_below (by (with_reducible repeat (first | apply Kd.V_alloc | apply Kd.V_drewN | apply Kd.V_drew)); exact HO_214001.out) hb)
            replace HL214_0 := Aside0.mk (Kd.V_below (by (with_reducible repeat (first | apply Kd.V_alloc | apply Kd.V_drewN | apply Kd.V_drew)); exact HL214_0.out) hb)
            replace HL214_1 := Aside0.mk (Kd.V_below (by (with_reducible repeat (first | apply Kd.V_alloc | apply Kd.V_drewN | apply Kd.V_drew)); exact HL214_1.out) hb)
            replace BK211 := bb_ BK211 hb
            replace BK213 := bb_ BK213 hb
            replace HR214_0 := Aside0.mk (Kd.C_below (by repeat (first | (with_reducible exact HR214_0.out) | (with_reducible refine Kd.C_alloc ?_ _) | (with_reducible refine Kd.C_drewN ?_ _) | (with_reducible refine Kd.C_drew ?_) | exact HR214_0.out)) hb)
            replace HR214_1 := Aside0.mk (Kd.C_below (by repeat (first | (with_reducible exact HR214_1.out) | (with_reducible refine Kd.C_alloc ?_ _) | (with_reducible refine Kd.C_drewN ?_ _) | (with_reducible refine Kd.C_drew ?_) | exact HR214_1.out)) hb)
            replace HB := b1_ hb
            clear hb
            refine hK.out _ _ ⟨cz0_ BK213, cz1_ BK213, HS2_, HS3_⟩ (fun hHeld => ?_)
            clear hK K
            refine no_ (some 26) ?_
            refine pu_ 7 (some 27) (bl_ 8 255) HT_ ?_
            refine done_ (done_of HT_.out (by kernel_rfl)) ?_
            try go_wp2
            go_roundg k1
            case measure => have := HK1.out; omega
            case rel => exact ⟨(wrap64 (x6_1 + 1)), (x214000_1), (x214001_1), (.slice Ao19 x214000_1.length co19), (.slice Ao20 x214001_1.length co20), qc_, H', ⟨by have := HK1.out; omega⟩, ⟨by (with_reducible repeat (first | apply Kd.V_alloc | apply Kd.V_drewN | apply Kd.V_drew)); exact HO_0.out⟩, ⟨by (with_reducible repeat (first | apply Kd.V_alloc | apply Kd.V_drewN | apply Kd.V_drew)); exact HO_214000.out⟩, ⟨by (with_reducible repeat (first | apply Kd.V_alloc | apply Kd.V_drewN | apply Kd.V_drew)); exact HO_214001.out⟩, ⟨(kk_ BK211)⟩, ⟨(kk_ BK213)⟩, ⟨hB_⟩, HJ⟩
        · rw [if_neg c8] at H
          have c8b0 := decide_eq_false c8
          clear c8
          simp only [Option.some.injEq, Prod.mk.injEq] at H
          obtain ⟨rfl, rfl⟩ := H
          have hnb22 := NB213_211.out
          have hnc22 := NB211_213.out
          obtain ⟨hcz23_0, hcz23_1, hfz23_0, hfz23_1⟩ := c2_ BK213
          obtain ⟨Ao24, co24, eo24⟩ := Kd.V_slice HO_214000.out
          subst eo24
          obtain ⟨hcz25_0, hcz25_1, hfz25_0, hfz25_1⟩ := c2_ BK211
          obtain ⟨Ao26, co26, eo26⟩ := Kd.V_slice HO_214001.out
          subst eo26
          go_wp2
          refine bodyPost_ret (results_cell_row rfl _ _ gb211 33 #[.slice Ao24 x214000_1.length co24, .slice Ao26 x214001_1.length co26] (0, 0) _ rfl qp_ Try.underlying33 rfl (by kernel_rfl)) rfl ?_
          exact ⟨_, _, qb_, by (with_reducible repeat (first | apply Kd.V_alloc | apply Kd.V_drewN | apply Kd.V_drew)); exact Kd.V_mono (Kd.V_far (p := ⟨gb211, 1, none⟩) (Kd.V_far (p := ⟨gb211, 0, none⟩) (Kd.V_mono HO_214000.out (fun k_ hk => (⟨hk, hk.2.1⟩ : _ ∧ k_ ≠ gb211))) (fun _ hk => hk.2) (.slice Ao24 x214000_1.length co24)) (fun _ hk => hk.2) (.slice Ao26 x214001_1.length co26)) (fun _ hk => hk.1.1), by (with_reducible repeat (first | apply Kd.V_alloc | apply Kd.V_drewN | apply Kd.V_drew)); exact Kd.V_mono (Kd.V_far (p := ⟨gb211, 1, none⟩) (Kd.V_far (p := ⟨gb211, 0, none⟩) (Kd.V_mono HO_214001.out (fun k_ hk => (⟨hk, hk.2.1⟩ : _ ∧ k_ ≠ gb211))) (fun _ hk => hk.2) (.slice Ao24 x214000_1.length co24)) (fun _ hk => hk.2) (.slice Ao26 x214001_1.length co26)) (fun _ hk => hk.1.1), hB_, HJ.out⟩
end Go.Proofs.Ytoijcallajegfaa.A
end
