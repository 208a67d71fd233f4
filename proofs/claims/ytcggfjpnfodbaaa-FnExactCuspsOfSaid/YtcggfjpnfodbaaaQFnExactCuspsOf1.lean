/- Lemmas for the row FnExactCuspsOf: the program's functions told as plain functions, and plain mathematics. No conditions. -/
import Derived.ArgAppend
import Derived.Below
import Derived.BigQuiet
import Derived.Deep.AppendLies
import Derived.Deep.CutBlock
import Derived.Deep.DeepCutAuto
import Derived.Deep.Draws
import Derived.Deep.LoopGhost
import Derived.Deep.OwnRows
import Derived.Deep.QuietTactic
import Derived.Deep.RegionHeld3
import Derived.KernelRfl
import Derived.Laws.BitsLemmas
import Derived.Laws.BytesArg
import Derived.Laws.IdiomCopy
import Derived.Laws.MakeOwn
import Derived.Laws.OwnMore
import Derived.Laws.Rows
import Derived.Laws.Slices
import Derived.Laws.Tables
import Derived.Lib.AppendStr
import Derived.Lib.ConvBytes
import Derived.MapKept
import Derived.Maps.AppendAt
import Derived.OrdersHeld
import Derived.OwnWalk
import Derived.RowKit
import Derived.RowKit3
import Derived.Tactics
import Derived.Test.YtcggfjpnfodbaaaProg
import Derived.WalkKit
import Derived.WideLaws
import Derived.Test.YtcggfjpnfodbaaaQFnExactCuspsOf0
section
namespace Go.Proofs.Ytcggfjpnfodbaaa.A
open Go.RowKit Go.Proofs.YtcggfjpnfodbaaaW.PrintWords Go.Proofs.YtcggfjpnfodbaaaW.PrintLast Go.Proofs.YtcggfjpnfodbaaaW.PrintMore
attribute [local go_sem] max2_int min2_int max_two min_two max_three min_three max_four min_four
set_option linter.unusedVariables false
set_option linter.unusedSimpArgs false
def errW : Option Int → Value
  | none => .nilIface
  | some c => .iface 0 (.int .i64 c)
theorem errW_none : errW none = .nilIface := rfl
theorem errW_some (c : Int) : errW (some c) = .iface 0 (.int .i64 c) := rfl
theorem info3 : (Try.prog.info? 3).map (fun i => (i.zero, i.size, i.bytes)) = some (some (.int .i64 0), 1, 8) := by kernel_rfl
theorem info4 : (Try.prog.info? 4).map (fun i => (i.zero, i.size, i.bytes)) = some (some (.bool false), 1, 1) := by kernel_rfl
theorem info5 : (Try.prog.info? 5).map (fun i => (i.zero, i.size, i.bytes)) = some (some (.int .u8 0), 1, 1) := by kernel_rfl
theorem info9 : (Try.prog.info? 9).map (fun i => (i.zero, i.size, i.bytes)) = some (some (.string ⟨#[]⟩), 1, 16) := by kernel_rfl
theorem info25 : (Try.prog.info? 25).map (fun i => (i.zero, i.size, i.bytes)) = some (some (.agg #[(.slice none 0 0), (.slice none 0 0)]), 2, 48) := by kernel_rfl
structure S25 where
  f0 : (List Int)
  f1 : (List Int)
def z25 : S25 := ⟨([] : List Int), ([] : List Int)⟩
def pairN {α β : Type} (a : Kd α) (b : Kd β) : Kd (α × β) where
  sz := a.sz + b.sz
  E := a.E ++ b.E
  K := (Kd.pair a b).K
  M := fun w base ok x cs => ∃ c0 c1, cs = c0 ++ c1 ∧ a.M w base ok x.1 c0 ∧ b.M w base ok x.2 c1 ∧ ∀ u ∈ c0, ∀ v ∈ c1, NeRow u v
  K_len := (Kd.pair a b).K_len
  K_one := (Kd.pair a b).K_one
  K_below := (Kd.pair a b).K_below
  K_of_M := fun ⟨c0, c1, e, h0, h1, _⟩ => (Kd.pair a b).K_of_M ⟨c0, c1, e, h0, h1⟩
  M_mono := fun hok ⟨c0, c1, e, h0, h1, n⟩ => ⟨c0, c1, e, a.M_mono hok h0, b.M_mono hok h1, n⟩
  M_bound := by
    rintro w base ok x cs ⟨c0, c1, rfl, h0, h1, n⟩
    refine ⟨c0, c1, rfl, a.M_mono ?_ (a.M_bound h0), b.M_mono ?_ (b.M_bound h1), n⟩
    · rintro k ⟨h2, h3, h4, q, hq, hc⟩
      exact ⟨h2, h3, h4, q, List.mem_append_left _ hq, hc⟩
    · rintro k ⟨h2, h3, h4, q, hq, hc⟩
      exact ⟨h2, h3, h4, q, List.mem_append_right _ hq, hc⟩
  M_move := fun hm ⟨c0, c1, e, h0, h1, n⟩ => ⟨c0, c1, e, a.M_move hm h0, b.M_move hm h1, n⟩
  M_lower := fun hb ⟨c0, c1, e, h0, h1, n⟩ => ⟨c0, c1, e, a.M_lower hb h0, b.M_lower hb h1, n⟩
def k25 : Kd S25 := Kd.iso (pairN (Kd.slice 3 (Kd.int .i64)) (Kd.slice 3 (Kd.int .i64))) (fun x : S25 => (x.f0, x.f1))
theorem k25_open {w : World} {x : S25} {cs : List Value} (h : k25.K w x cs) : ∃ A0 c0 A1 c1, cs = [.slice A0 x.f0.length c0, .slice A1 x.f1.length c1] ∧ x.f0.length ≤ c0 ∧ (Kd.int .i64).C w A0 x.f0.length x.f0 ∧ x.f1.length ≤ c1 ∧ (Kd.int .i64).C w A1 x.f1.length x.f1 := by
  obtain ⟨_, _, rfl, ⟨A0, c0, rfl, l0, g0⟩, ⟨A1, c1, rfl, l1, g1⟩⟩ := h
  exact ⟨A0, c0, A1, c1, rfl, l0, g0, l1, g1⟩
theorem k25_openN {w : World} {base : Nat} {ok : Nat → Prop} {x : S25} {cs : List Value} (h : k25.M w base ok x cs) : ∃ v0 v1, cs = [v0, v1] ∧ (Kd.int .i64).R 3 w base ok v0 x.f0 ∧ (Kd.int .i64).R 3 w base ok v1 x.f1 ∧ NeRow v0 v1 := by
  obtain ⟨_, _, rfl, ⟨v0, rfl, g0⟩, ⟨v1, rfl, g1⟩, n⟩ := h
  exact ⟨v0, v1, rfl, g0, g1, n v0 (by simp) v1 (by simp)⟩
theorem k25_mk (w : World) (x : S25) {A0 : Option Addr} {c0 : Nat} (l0 : x.f0.length ≤ c0) (g0 : (Kd.int .i64).C w A0 x.f0.length x.f0) {A1 : Option Addr} {c1 : Nat} (l1 : x.f1.length ≤ c1) (g1 : (Kd.int .i64).C w A1 x.f1.length x.f1) : k25.K w x [.slice A0 x.f0.length c0, .slice A1 x.f1.length c1] := ⟨[.slice A0 x.f0.length c0], [.slice A1 x.f1.length c1], rfl, ⟨A0, c0, rfl, l0, g0⟩, ⟨A1, c1, rfl, l1, g1⟩⟩
theorem k25_mkM (w : World) (base : Nat) (ok : Nat → Prop) (x : S25) {v0 : Value} (g0 : (Kd.int .i64).R 3 w base ok v0 x.f0) {v1 : Value} (g1 : (Kd.int .i64).R 3 w base ok v1 x.f1) (ne : NeRow v0 v1) : k25.M w base ok x [v0, v1] := ⟨[v0], [v1], rfl, ⟨v0, rfl, g0⟩, ⟨v1, rfl, g1⟩, fun u hu v hv => by rw [List.mem_singleton.1 hu, List.mem_singleton.1 hv]; exact ne⟩
theorem k25_openF {W : World} {ok : Nat → Prop} {x : S25} {cs : List Value} (h : Kd.FK k25 W ok x cs) : ∃ A0 c0 A1 c1, cs = [.slice A0 x.f0.length c0, .slice A1 x.f1.length c1] ∧ x.f0.length ≤ c0 ∧ Kd.F (Kd.int .i64) W ok A0 x.f0.length x.f0 ∧ x.f1.length ≤ c1 ∧ Kd.F (Kd.int .i64) W ok A1 x.f1.length x.f1 := by
  obtain ⟨A0, c0, A1, c1, rfl, l0, _, l1, _⟩ := k25_open (Kd.FK_now h)
  exact ⟨A0, c0, A1, c1, rfl, l0, (fun W' hW => by obtain ⟨A0_, c0_, A1_, c1_, he, l0_, g0_, l1_, g1_⟩ := k25_open (h W' hW); injection (Option.some.inj (show some (Value.slice A0 x.f0.length c0) = some (Value.slice A0_ x.f0.length c0_) from congrArg (fun l => l[0]?) he)) with ha_ _ _; rw [ha_]; exact g0_), l1, (fun W' hW => by obtain ⟨A0_, c0_, A1_, c1_, he, l0_, g0_, l1_, g1_⟩ := k25_open (h W' hW); injection (Option.some.inj (show some (Value.slice A1 x.f1.length c1) = some (Value.slice A1_ x.f1.length c1_) from congrArg (fun l => l[1]?) he)) with ha_ _ _; rw [ha_]; exact g1_)⟩
theorem k25_mkF (W : World) (ok : Nat → Prop) (x : S25) {A0 : Option Addr} {c0 : Nat} (l0 : x.f0.length ≤ c0) (g0 : Kd.F (Kd.int .i64) W ok A0 x.f0.length x.f0) {A1 : Option Addr} {c1 : Nat} (l1 : x.f1.length ≤ c1) (g1 : Kd.F (Kd.int .i64) W ok A1 x.f1.length x.f1) : Kd.FK k25 W ok x [.slice A0 x.f0.length c0, .slice A1 x.f1.length c1] := fun W2 hW => k25_mk W2 x l0 (g0 W2 hW) l1 (g1 W2 hW)
def rd_T25 (xs : List S25) (i : Int) : S25 := xs.getD i.toNat z25
theorem at_T25 {w : World} {A : Option Addr} {n : Nat} {xs : List S25} (h : Kd.C k25 w A n xs) (i : Int) (h0 : 0 ≤ i) (h1 : i < n) : ∃ ad A0 c0 A1 c1, A = some ad ∧ w.cell? (ad.add (i.toNat * 2)) = some (.slice A0 (rd_T25 xs i).f0.length c0) ∧ w.cell? ⟨(ad.add (i.toNat * 2)).block, (ad.add (i.toNat * 2)).off + 1, none⟩ = some (.slice A1 (rd_T25 xs i).f1.length c1) ∧ (rd_T25 xs i).f0.length ≤ c0 ∧ (Kd.int .i64).C w A0 (rd_T25 xs i).f0.length (rd_T25 xs i).f0 ∧ (rd_T25 xs i).f1.length ≤ c1 ∧ (Kd.int .i64).C w A1 (rd_T25 xs i).f1.length (rd_T25 xs i).f1 := by
  obtain ⟨ad, c, e, _, hK, hc0⟩ := Kd.C_get h z25 i h0 h1
  have hc : ∀ j u, c[j]? = some u → w.cell? (ad.add (i.toNat * 2 + j)) = some u := hc0
  obtain ⟨A0, c0, A1, c1, rfl, l0, g0, l1, g1⟩ := k25_open hK
  exact ⟨ad, A0, c0, A1, c1, e, hc 0 _ rfl, by rw [← add_field _ _ 1 (by omega)]; exact hc 1 _ rfl, l0, g0, l1, g1⟩
structure S78 where
  f0 : Int
  f1 : Int
structure S99 where
  f0 : (List Int)
  f1 : Int
  f2 : Int
end Go.Proofs.Ytcggfjpnfodbaaa.A
end
section
/- A map of two keys, as it is filled: look-ups and stores. No conditions. -/
namespace Go.Proofs.Ytcggfjpnfodbaaa.M
set_option linter.unusedVariables false
set_option linter.unusedSimpArgs false
open Go Go.RowKit Go.Proofs.YtcggfjpnfodbaaaW.PrintWords Go.Proofs.YtcggfjpnfodbaaaW.PrintLast Go.Proofs.YtcggfjpnfodbaaaW.PrintMore Go.Proofs.Ytcggfjpnfodbaaa.A Go.MapKept
def mapO (n : Nat) (vT vS : Value) : Obj := .map ((#[⟨.int .u8 84, vT, 0⟩, ⟨.int .u8 83, vS, 1⟩] : Array MapEntry).extract 0 n) n
def mapV (n c : Nat) (vT vS : Value) : Value := if c = 84 then (if 1 ≤ n then vT else .slice none 0 0) else if 2 ≤ n then vS else .slice none 0 0
theorem key_u8 (c : Int) : IsKey (.int .u8) (.int .u8 c) := rfl
theorem map_look {w : World} {b : Nat} {es : Array MapEntry} {c : Nat} (hb : w.heap[b]? = some (.map es c)) (kk : Int) (r : Option (Nat × Value)) (hf : Instr.findNow (.int .u8) (.int .u8 kk) es.toList 0 = some r) :
    (Instr.lookup 67 (.map (some b)) (.int .u8 kk) false).run Try.prog w = .ok (match r with | some x => x.2 | none => .slice none 0 0) w := by
  have ht := Try.underlying67
  have hk : Try.prog.underlying 5 = some (.int .u8) := Try.underlying5
  have h1 := Go.MapKept.run_findKey (P := Try.prog) (w := w) hk hf
  have hz : (zeroValue 23).run Try.prog w = .ok (.slice none 0 0) w := by kernel_rfl
  cases r with
  | none => simp [Instr.lookup, run_underlying ht, Go.MapKept.run_getObj_map hb, Go.MapKept.run_checkKey hk (key_u8 kk), h1, hz, Result.andThen]
  | some x => simp [Instr.lookup, run_underlying ht, Go.MapKept.run_getObj_map hb, Go.MapKept.run_checkKey hk (key_u8 kk), h1, hz, Result.andThen]
theorem map_push {w : World} {b : Nat} {es : Array MapEntry} {c : Nat} (hb : w.heap[b]? = some (.map es c)) (kk : Int) (hf : Instr.findNow (.int .u8) (.int .u8 kk) es.toList 0 = some none) (v : Value) :
    (Instr.mapUpdate 67 (.map (some b)) (.int .u8 kk) v).run Try.prog w = .ok () { w with heap := w.heap.setIfInBounds b (.map (es.push ⟨.int .u8 kk, v, c⟩) (c + 1)) } := by
  have ht := Try.underlying67
  have hk : Try.prog.underlying 5 = some (.int .u8) := Try.underlying5
  have h1 := Go.MapKept.run_findKey (P := Try.prog) (w := w) hk hf
  simp [Instr.mapUpdate, run_underlying ht, Go.MapKept.run_getObj_map hb, Go.MapKept.run_checkKey hk (key_u8 kk), h1, Go.MapKept.run_setObj_map _ hb, Result.andThen]
theorem map_turn {w : World} {b : Nat} {es : Array MapEntry} {c : Nat} (hb : w.heap[b]? = some (.map es c)) (kk : Int) (i : Nat) (u v : Value) (hf : Instr.findNow (.int .u8) (.int .u8 kk) es.toList 0 = some (some (i, u))) (hi : (es[i]?.map (·.key)) = some (.int .u8 kk)) :
    (Instr.mapUpdate 67 (.map (some b)) (.int .u8 kk) v).run Try.prog w = .ok () { w with heap := w.heap.setIfInBounds b (.map (es.modify i fun e => { e with key := .int .u8 kk, val := v }) c) } := by
  have ht := Try.underlying67
  have hk : Try.prog.underlying 5 = some (.int .u8) := Try.underlying5
  have h1 := Go.MapKept.run_findKey (P := Try.prog) (w := w) hk hf
  have h2 := Go.MapKept.run_keyThatStays (P := Try.prog) (w := w) (key_u8 kk)
  simp [Instr.mapUpdate, run_underlying ht, Go.MapKept.run_getObj_map hb, Go.MapKept.run_checkKey hk (key_u8 kk), h1, hi, h2, Go.MapKept.run_setObj_map _ hb, Result.andThen]
def setMap (w : World) (b n : Nat) (vT vS : Value) : World := { w with heap := w.heap.setIfInBounds b (mapO n vT vS) }
theorem look_T {w : World} {b n : Nat} {vT vS : Value} (hb : w.heap[b]? = some (mapO n vT vS)) (hn : n = 0 ∨ n = 1 ∨ n = 2) : (Instr.lookup 67 (.map (some b)) (.int .u8 84) false).run Try.prog w = .ok (mapV n 84 vT vS) w := by
  rcases hn with rfl | rfl | rfl
  · exact map_look hb 84 none rfl
  · exact map_look hb 84 (some (0, vT)) rfl
  · exact map_look hb 84 (some (0, vT)) rfl
theorem look_S {w : World} {b n : Nat} {vT vS : Value} (hb : w.heap[b]? = some (mapO n vT vS)) (hn : n = 0 ∨ n = 1 ∨ n = 2) : (Instr.lookup 67 (.map (some b)) (.int .u8 83) false).run Try.prog w = .ok (mapV n 83 vT vS) w := by
  rcases hn with rfl | rfl | rfl
  · exact map_look hb 83 none rfl
  · exact map_look hb 83 none rfl
  · exact map_look hb 83 (some (1, vS)) rfl
theorem put_T {w : World} {b n : Nat} {vT vS : Value} (hb : w.heap[b]? = some (mapO n vT vS)) (hn : n = 0 ∨ n = 2) (v : Value) : (Instr.mapUpdate 67 (.map (some b)) (.int .u8 84) v).run Try.prog w = .ok () (setMap w b (max n 1) v vS) := by
  rcases hn with rfl | rfl
  · exact map_push hb 84 rfl v
  · exact map_turn hb 84 0 vT v rfl rfl
theorem put_S {w : World} {b n : Nat} {vT vS : Value} (hb : w.heap[b]? = some (mapO n vT vS)) (hn : n = 1 ∨ n = 2) (v : Value) : (Instr.mapUpdate 67 (.map (some b)) (.int .u8 83) v).run Try.prog w = .ok () (setMap w b 2 vT v) := by
  rcases hn with rfl | rfl
  · exact map_push hb 83 rfl v
  · exact map_turn hb 83 1 vS v rfl rfl
theorem setMap_at {w : World} {b n : Nat} {o : Obj} (hb : w.heap[b]? = some o) (vT vS : Value) : (setMap w b n vT vS).heap[b]? = some (mapO n vT vS) := by
  have := (Array.getElem?_eq_some_iff.1 hb).1
  simp [setMap, this]
theorem setMap_far {w : World} {b n : Nat} (vT vS : Value) {g : Nat} (h : g ≠ b) : (setMap w b n vT vS).heap[g]? = w.heap[g]? := by
  simp only [setMap, Array.getElem?_setIfInBounds]
  rw [if_neg (fun e => h e.symm)]
theorem setMap_grown {w : World} {b n : Nat} (vT vS : Value) : w.grownBy (setMap w b n vT vS) (some b) :=
  ⟨rfl, rfl, rfl, by simp [setMap], fun i _ hi => setMap_far vT vS (fun e => hi (by rw [e]))⟩
theorem setMap_below {w0 w : World} {b n : Nat} (vT vS : Value) (hB : Below w0.heap.size w0 w) (hb : w0.heap.size ≤ b) : Below w0.heap.size w0 (setMap w b n vT vS) :=
  hB.grown (setMap_grown vT vS) hB.size (fun k e => by injection e with e; omega)
end Go.Proofs.Ytcggfjpnfodbaaa.M
end
section
/- Short words for printed texts. No conditions. -/
namespace Go.Proofs.Ytcggfjpnfodbaaa.A
open Go.RowKit Go.Proofs.YtcggfjpnfodbaaaW.PrintWords Go.Proofs.YtcggfjpnfodbaaaW.PrintLast Go.Proofs.YtcggfjpnfodbaaaW.PrintMore
set_option linter.unusedVariables false
theorem qa_ {p : Prop} (h : p := by (try simp only [List.map_toArray, List.map_cons, List.map_nil]); first | done | rfl | (simp only [List.length_drop, List.length_take]; rfl)) : p := h
theorem qb_ {p : Prop} (h : p := by first | rfl | (simp [errW_none, errW_some] <;> rfl) | (simp [*, errW_none, errW_some] <;> rfl)) : p := h
theorem qc_ {p : Prop} (h : p := by first | rfl | (simp; done) | (simp [*]; done)) : p := h
theorem qd_ {p : Prop} (h : p := by first | omega | exact Nat.le_refl _) : p := h
theorem qe_ {p : Prop} (h : p := by first | (with_reducible assumption) | assumption) : p := h
theorem hB_ {p : Prop} (h : p := by repeat (first | (with_reducible first | exact HB.out | apply below_alloc | apply pw_below_drewN | apply below_drew1 | refine below_set ?_ (Aside0.out (by assumption))) | exact HB.out)) : p := h
theorem kk_ {w W : World} {g : Nat} {o : Obj} (a : Aside0 (w.heap[g]? = some o)) (hw : Below w.heap.size w W := by repeat (first | (with_reducible first | exact Below.refl _ _ | apply below_alloc | apply pw_below_drewN | apply below_drew1) | exact Below.refl _ _)) : W.heap[g]? = some o := blk_below a.out hw
theorem bb_ {w W w1 : World} {g : Nat} {o : Obj} (a : Aside0 (w.heap[g]? = some o)) (hb : Below W.heap.size W w1) (hw : Below w.heap.size w W := by repeat (first | (with_reducible first | exact Below.refl _ _ | apply below_alloc | apply pw_below_drewN | apply below_drew1) | exact Below.refl _ _)) : Aside0 (w1.heap[g]? = some o) := ⟨blk_below (blk_below a.out hw) hb⟩
section
variable {α : Type} {d : Kd α} {e n c : Nat} {b : Nat} {ok : Nat → Prop} {v : Value} {xs : List α} {A : Option Addr} {w W w1 : World}
theorem rr_ (a : Aside0 (d.R e w b ok v xs)) (hw : Below w.heap.size w W := by repeat (first | (with_reducible first | exact Below.refl _ _ | apply below_alloc | apply pw_below_drewN | apply below_drew1) | exact Below.refl _ _)) : d.R e W b ok v xs := Kd.R_below a.out hw
theorem rw_ (a : d.R e w b ok v xs) (hw : Below w.heap.size w W := by repeat (first | (with_reducible first | exact Below.refl _ _ | apply below_alloc | apply pw_below_drewN | apply below_drew1) | exact Below.refl _ _)) : d.R e W b ok v xs := Kd.R_below a hw
theorem rb_ (a : Aside0 (d.R e w b ok v xs)) (hb : Below W.heap.size W w1) (hw : Below w.heap.size w W := by repeat (first | (with_reducible first | exact Below.refl _ _ | apply below_alloc | apply pw_below_drewN | apply below_drew1) | exact Below.refl _ _)) : Aside0 (d.R e w1 b ok v xs) := ⟨Kd.R_below (Kd.R_below a.out hw) hb⟩
theorem ss_ (a : Aside0 (Kd.S d e w b ok v xs)) (hw : Below w.heap.size w W := by repeat (first | (with_reducible first | exact Below.refl _ _ | apply below_alloc | apply pw_below_drewN | apply below_drew1) | exact Below.refl _ _)) : Kd.S d e W b ok v xs := Kd.S_below a.out hw
theorem sw_ (a : Kd.S d e w b ok v xs) (hw : Below w.heap.size w W := by repeat (first | (with_reducible first | exact Below.refl _ _ | apply below_alloc | apply pw_below_drewN | apply below_drew1) | exact Below.refl _ _)) : Kd.S d e W b ok v xs := Kd.S_below a hw
theorem sb_ (a : Aside0 (Kd.S d e w b ok v xs)) (hb : Below W.heap.size W w1) (hw : Below w.heap.size w W := by repeat (first | (with_reducible first | exact Below.refl _ _ | apply below_alloc | apply pw_below_drewN | apply below_drew1) | exact Below.refl _ _)) : Aside0 (Kd.S d e w1 b ok v xs) := ⟨Kd.S_below (Kd.S_below a.out hw) hb⟩
theorem cb_ (a : Aside0 (d.C w A n xs)) (hw : Below w.heap.size w W := by repeat (first | (with_reducible first | exact HB.out | apply below_alloc | apply pw_below_drewN | apply below_drew1 | refine below_set ?_ (Aside0.out (by assumption))) | exact HB.out)) : d.C W A n xs := Kd.C_below a.out hw
theorem cc_ (a : Aside0 (d.C w A n xs)) (hw : Below w.heap.size w W := by repeat (first | (with_reducible first | exact Below.refl _ _ | apply below_alloc | apply pw_below_drewN | apply below_drew1) | exact Below.refl _ _)) : d.C W A n xs := Kd.C_below a.out hw
theorem cw_ (a : d.C w A n xs) (hw : Below w.heap.size w W := by repeat (first | (with_reducible first | exact Below.refl _ _ | apply below_alloc | apply pw_below_drewN | apply below_drew1) | exact Below.refl _ _)) : d.C W A n xs := Kd.C_below a hw
theorem cr_ (a : Aside0 (d.R e w b ok (.slice A n c) xs)) (hw : Below w.heap.size w W := by repeat (first | (with_reducible first | exact Below.refl _ _ | apply below_alloc | apply pw_below_drewN | apply below_drew1) | exact Below.refl _ _)) : d.C W A xs.length xs := Kd.C_below (Kd.R_reads' a.out).2.2 hw
end
theorem b1_ {w W w1 : World} (hb : Below W.heap.size W w1) (h : Below w.heap.size w W := by repeat (first | (with_reducible first | exact HB.out | apply below_alloc | apply pw_below_drewN | apply below_drew1 | refine below_set ?_ (Aside0.out (by assumption))) | exact HB.out)) : Aside0 (Below w.heap.size w w1) := ⟨below_step h hb⟩
theorem gx_ {n m k : Nat} (hg : k = m) (h : n ≤ m) : n ≤ k := hg ▸ h
theorem gn_ {n m k : Nat} (hg : k = m) (h : n < m) : n ≠ k := hg ▸ Nat.ne_of_lt h
theorem gp_ {n m k : Nat} (hg : k = m) (h : n < m) : k ≠ n := hg ▸ Nat.ne_of_gt h
theorem cz0_ {w : World} {g : Nat} {t : TypeId} {l : List Value} {v0 : Value} (h : Aside0 (w.heap[g]? = some (.cells (List.toArray (v0 :: l)) t (0, 0)))) : w.cell? ⟨g, 0, none⟩ = some v0 := (blk_cell h.out 0).trans rfl
theorem cz1_ {w : World} {g : Nat} {t : TypeId} {l : List Value} {v0 v1 : Value} (h : Aside0 (w.heap[g]? = some (.cells (List.toArray (v0 :: v1 :: l)) t (0, 0)))) : w.cell? ⟨g, 1, none⟩ = some v1 := (blk_cell h.out 1).trans rfl
theorem c2_ {w : World} {g : Nat} {t : TypeId} {v0 v1 : Value} (h : Aside0 (w.heap[g]? = some (.cells (List.toArray [v0, v1]) t (0, 0)))) : w.cell? ⟨g, 0, none⟩ = some v0 ∧ w.cell? ⟨g, 1, none⟩ = some v1 ∧ w.frozen? ⟨g, 0, none⟩ = false ∧ w.frozen? ⟨g, 1, none⟩ = false := ⟨cz0_ h, cz1_ h, blk_frozen h.out 0, blk_frozen h.out 1⟩
theorem gw_ (w : World) {W : World} {g : Nat} (hg : g = W.heap.size) (h : Below w.heap.size w W := by repeat (first | (with_reducible first | exact HB.out | apply below_alloc | apply pw_below_drewN | apply below_drew1 | refine below_set ?_ (Aside0.out (by assumption))) | exact HB.out)) : Aside0 (w.heap.size ≤ g) := ⟨gx_ hg (below_size h)⟩
theorem gN_ {w W : World} {g k : Nat} {o : Obj} (a : Aside0 (w.heap[g]? = some o)) (hg : k = W.heap.size) (hw : Below w.heap.size w W := by repeat (first | (with_reducible first | exact Below.refl _ _ | apply below_alloc | apply pw_below_drewN | apply below_drew1) | exact Below.refl _ _)) : Aside0 (g ≠ k) := ⟨gn_ hg (blk_lt (blk_below a.out hw))⟩
theorem gP_ {w W : World} {g k : Nat} {o : Obj} (a : Aside0 (w.heap[g]? = some o)) (hg : k = W.heap.size) (hw : Below w.heap.size w W := by repeat (first | (with_reducible first | exact Below.refl _ _ | apply below_alloc | apply pw_below_drewN | apply below_drew1) | exact Below.refl _ _)) : Aside0 (k ≠ g) := ⟨gp_ hg (blk_lt (blk_below a.out hw))⟩
theorem rl_ {α : Type} {d : Kd α} {e : Nat} {ok : Nat → Prop} {v : Value} {xs : List α} (w : World) {W w1 : World} (a : d.R e w1 W.heap.size ok v xs) (h : Below w.heap.size w W := by repeat (first | (with_reducible first | exact HB.out | apply below_alloc | apply pw_below_drewN | apply below_drew1 | refine below_set ?_ (Aside0.out (by assumption))) | exact HB.out)) : Aside0 (d.R e w1 w.heap.size ok v xs) := ⟨Kd.R_lower a (below_size h)⟩
theorem cp_ {α : Type} {c : Prop} [Decidable c] {a : Option α} {r : α} (H : (if c then a else none) = some r) : c := Classical.byContradiction fun h => by rw [if_neg h] at H; cases H
theorem ca_ {α : Type} {c : Prop} [Decidable c] {a : Option α} {r : α} (H : (if c then a else none) = some r) : a = some r := by rw [if_pos (cp_ H)] at H; exact H
theorem bi_ {α β : Type} {x : Option α} {f : α → Option β} {r : β} (H : x.bind f = some r) : ∃ a, Aside0 (x = some a) ∧ f a = some r := by obtain ⟨a, h, k⟩ := Option.bind_eq_some_iff.mp H; exact ⟨a, ⟨h⟩, k⟩
theorem qp_ {p : Prop} (h : p := by (with_reducible repeat (first | refine blk_drewN ?_ _ | refine blk_drew ?_ | refine blk_alloc ?_ _)); apply blk_put; (with_reducible repeat (first | refine blk_drewN ?_ _ | refine blk_drew ?_ | refine blk_alloc ?_ _)); apply blk_put; (with_reducible repeat (first | refine blk_drewN ?_ _ | refine blk_drew ?_ | refine blk_alloc ?_ _)); exact Aside0.out (by assumption); all_goals rfl) : p := h
theorem fa_ {α : Type} {d : Kd α} {e b g t : Nat} {ok : Nat → Prop} {v u0 u1 : Value} {xs : List α} {w : World} {cs : Array Value} (a : Aside0 (d.R e w b ok v xs)) (h : Aside0 (w.heap[g]? = some (.cells cs t (0, 0)))) (ht : ∀ q, q ∈ e :: d.E → q ≠ t := by decide) : d.R e ((w.setCell ⟨g, 0, none⟩ u0).setCell ⟨g, 1, none⟩ u1) b ok v xs := Kd.R_mono (Kd.R_far (p := ⟨g, 1, none⟩) (Kd.R_far (p := ⟨g, 0, none⟩) (Kd.R_types a.out h.out ht) (fun _ hk => hk.2) u0) (fun _ hk => hk.2) u1) (fun _ hk => hk.1)
def bl_ (n m : Nat) : Array Bool := ((List.range n).map fun i => m.testBit i).toArray
theorem lo_ {α : Type} {a b : Option α} (h : LeO a b := by first | exact LeO.refl _ | exact LeO.none _) : LeO a b := h
section
variable {P : Program} {ops : Array Oper} {rest : List Oper} {o : Oper} {a : Act} {Q : Exit → Act → World → Prop} {S : World → Prop} {ds : List Nat} {md : Region.Mode} {T : Bool × List (List Nat × List Nat)} {B : List Nat}
theorem bx_ {W : World} (N : Tmp) (cs : Array Value) (t : TypeId) (h : ∀ g, g = W.heap.size → ∀ w1, w1.heap[g]? = some (.cells cs t (0, 0)) → Below W.heap.size W w1 → wpList P ops Q rest (a.put o.dst (.pointer (some ⟨g, 0, none⟩))) w1) (hgd : o.guard = none := by rfl) (hd : o.dst = some N := by rfl) (hrun : (execOp a.eval o).run P W = .ok (.value (.pointer (some ⟨W.heap.size, 0, none⟩))) (W.alloc (.cells cs t (0, 0))) := by first | (go_simp; done) | (go_simp; rfl)) : wpList P ops Q (o :: rest) a W := box_event hgd hd hrun h
theorem gL_ {w : World} (N : Option Tmp) {f : FuncId} {fn : Func} {az : Array Operand} {ts : Array TypeId} (hf : P.funcs[f]? = some fn) (args : Array Value) (hop : o.op = .call { callee := .value (.func f), args := az, argTypes := ts }) (hargs : az.map a.eval = args) (h : Calls P f args w fun e w' => ∃ v, e = .returned v ∧ wpList P ops Q rest (a.put N v) w') (hd : o.dst = N := by rfl) (hg : o.guard = none := by rfl) (hname : (fn.name == "runtime.NumGoroutine") = false := by kernel_rfl) (hb : fn.body.isSome = true := by rfl) : wpList P ops Q (o :: rest) a w := goesL_ N hd hg hf hname hb args hop hargs h
theorem gO_ {N : Option Tmp} {w : World} {K : Act → World → Prop} {f : FuncId} {fn : Func} {az : Array Operand} {ts : Array TypeId} (hf : P.funcs[f]? = some fn) (args : Array Value) (hw : Region.wanted o (yielded ops a.tmps) = true) (hN : o.dst = N) (hop : o.op = .call { callee := .value (.func f), args := az, argTypes := ts }) (hargs : az.map a.eval = args) (h : Calls P f args w fun e w' => ∃ v, e = .returned v ∧ K (a.put N v) w') (hname : (fn.name == "runtime.NumGoroutine") = false := by kernel_rfl) (hb : fn.body.isSome = true := by rfl) : if Region.wanted o (yielded ops a.tmps) = true then Oper.wp P o a w K Q else K (a.put N undef) w := goes_ hf hname hb args hw hN hop hargs h
theorem goesF_ {N : Option Tmp} {w : World} {K : Act → World → Prop} {f : FuncId} {fn : Func} {c : Operand} {az : Array Operand} {ts : Array TypeId} (hf : P.funcs[f]? = some fn) (hname : (fn.name == "runtime.NumGoroutine") = false) (hb : fn.body.isSome = true) (args : Array Value) (hw : Region.wanted o (yielded ops a.tmps) = true) (hN : o.dst = N) (hop : o.op = .call { callee := .value c, args := az, argTypes := ts }) (hargs : az.map a.eval = args) (h : Calls P f args w fun e w' => ∃ v, e = .returned v ∧ K (a.put N v) w') (hc : a.eval c = .func (.func f) #[] #[] := by rfl) : if Region.wanted o (yielded ops a.tmps) = true then Oper.wp P o a w K Q else K (a.put N undef) w := by
  refine call_ f args hw hN ?_ h
  have he := enters_ hf hname hb args w
  unfold execOp
  simp [hop, resolve, Deferred.ofValue, invoke, hargs, he, hc]
theorem pu_ (i : Nat) (N : Option Tmp) {v : Value} {fuel : Nat} {l : Array Bool} {w : World} (l' : Array Bool) (hT : Aside0 (rtab md ops = T)) {a' : Act} (h : wpAnyLast P md ops Q S ds fuel l' a' w) (hi : ops[i]? = some o := by rfl) (hN : o.dst = N := by rfl) (hc : anyT T l.toList l'.toList i = true := by kernel_rfl) (hQ : ∀ c a w, Q (.panic c) (a.put o.dst v) w → Q (.panic c) a w := by exact fun _ _ _ h => h) (hg : o.guard = none ∨ True := by exact .inr trivial) (hy : Yields P ops o v a := by exact Or.inl ⟨by rfl, by intro w'; go_simp; with_reducible rfl⟩) (ha : a.put N v = a' := by simp only [Act.put, List.setIfInBounds_toArray, List.set_cons_zero, List.set_cons_succ, i64_w, i32_w]; rfl) : wpAnyLast P md ops Q S ds (fuel + 1) l a w := pure_ l' hi hN (any_of hT.out hc) hQ hy ha h
theorem ta_ (i : Nat) (N : Option Tmp) {v : Value} {fuel : Nat} {l : Array Bool} {w : World} (l' : Array Bool) (hT : Aside0 (rtab md ops = T)) (hB : Aside0 (waitsOk T.2 B = true)) (hS : S w) {a' : Act} (h : wpAnyLast P md ops Q S ds fuel l' a' w) (hi : ops[i]? = some o := by rfl) (hN : o.dst = N := by rfl) (hc : takeW T B ds l.toList l'.toList i = true := by kernel_rfl) (hQ : ∀ c a w, Q (.panic c) (a.put o.dst v) w → Q (.panic c) a w := by exact fun _ _ _ h => h) (hy : YieldsIf P ops S o v a := by exact Or.inl ⟨by rfl, by intro w' hs_; (repeat obtain ⟨s_, hs_⟩ := hs_); go_simp; with_reducible rfl⟩) (ha : a.put N v = a' := by simp only [Act.put, List.setIfInBounds_toArray, List.set_cons_zero, List.set_cons_succ, i64_w, i32_w]; rfl) : wpAnyLast P md ops Q S ds (fuel + 1) l a w := take_ l' hi hN (take_ofW hT.out hB.out hc) hQ hy hS ha h
theorem on_ (i : Nat) (N : Option Tmp) {fuel : Nat} {l : Array Bool} {w : World} (l' : Array Bool) (hT : Aside0 (rtab md ops = T)) (h : ∀ K : Act → World → Prop, Shut (∀ a' w', S w' → (S w' → wpAnyLast P md ops Q S ds fuel l' a' w') → K a' w') → if Region.wanted o (yielded ops a.tmps) = true then Oper.wp P o a w K Q else K (a.put N undef) w) (hi : ops[i]? = some o := by rfl) (hN : o.dst = N := by rfl) (hc : (readyT T.2 l.toList == [i] && l.toList.set i true == l'.toList) = true := by kernel_rfl) (hd : i ∉ ds := by decide) : wpAnyLast P md ops Q S ds (fuel + 1) l a w := one_ l' hi hN (one_of hT.out hc) hd h
theorem no_ {v : Value} {fuel : Nat} {l : Array Bool} {w : World} (N : Option Tmp) {a' : Act} (h : wpAnyLast P md ops Q S ds fuel l a' w) (ha : a.put N v = a' := by simp only [Act.put, List.setIfInBounds_toArray, List.set_cons_zero, List.set_cons_succ, i64_w, i32_w]; rfl) : wpAnyLast P md ops Q S ds fuel l (a.put N v) w := norm_ ha h
end
end Go.Proofs.Ytcggfjpnfodbaaa.A
end
section
namespace Go.Proofs.Ytcggfjpnfodbaaa.A
open Go.RowKit Go.Proofs.YtcggfjpnfodbaaaW.PrintWords Go.Proofs.YtcggfjpnfodbaaaW.PrintLast Go.Proofs.YtcggfjpnfodbaaaW.PrintMore
attribute [local go_sem] max2_int min2_int max_two min_two max_three min_three max_four min_four
set_option linter.unusedVariables false
set_option linter.unusedSimpArgs false
def slices_Equal_int_int.l0 : Nat → List Int → List Int → Int → Int → Option (Bool)
  | 0, _, _, _, _ => none
  | k + 1, x0, x1, x12, x13 => if x13 < x12 then (if 0 ≤ x13 then (if x13 < (x0.length : Int) then (if x13 < (x1.length : Int) then (if (rd x0 x13) = (rd x1 x13) then (slices_Equal_int_int.l0 k x0 x1 x12 (wrap64 (x13 + 1))) else (some false)) else (none)) else (none)) else (none)) else (some true)
def slices_Equal_int_int.f (k : Nat) (l0 : List Int) (l1 : List Int) : Option (Bool) := if (l0.length : Int) = (l1.length : Int) then (slices_Equal_int_int.l0 k l0 l1 (l0.length : Int) 0) else (some false)
theorem slices_Equal_int_int.mono_l : ∀ k, (∀ y0 y1 y2 y3, LeO (slices_Equal_int_int.l0 k y0 y1 y2 y3) (slices_Equal_int_int.l0 (k + 1) y0 y1 y2 y3))
  | 0 => fun _ _ _ _ r h => by simp [slices_Equal_int_int.l0] at h
  | k + 1 => by
    have ih0 := slices_Equal_int_int.mono_l k
    · intro y0 y1 y2 y3
      unfold slices_Equal_int_int.l0
      repeat' first|exact ih0 _ _ _ _|exact lo_|refine LeO.ite ?_ ?_|refine LeO.bind ?_ (fun _ => ?_)
theorem slices_Equal_int_int.mono : ∀ a0 a1 k, LeO (slices_Equal_int_int.f k a0 a1) (slices_Equal_int_int.f (k + 1) a0 a1) := by
  intro a0 a1 k
  have ih0 := slices_Equal_int_int.mono_l k
  unfold slices_Equal_int_int.f
  repeat' first|exact ih0 _ _ _ _|exact lo_|refine LeO.ite ?_ ?_|refine LeO.bind ?_ (fun _ => ?_)
set_option maxHeartbeats 8000000 in
set_option maxRecDepth 100000 in
theorem slices_Equal_int_int.calls (k : Nat) (A0 : Option Addr) (c0 : Nat) (l0 : List Int) (A1 : Option Addr) (c1 : Nat) (l1 : List Int) (r : Bool) (w : World) (hr0 : Kd.C (Kd.int .i64) w A0 l0.length l0) (hc0 : l0.length ≤ c0) (hr1 : Kd.C (Kd.int .i64) w A1 l1.length l1) (hc1 : l1.length ≤ c1) (h : slices_Equal_int_int.f k l0 l1 = some r) :
    Calls Try.prog 116 #[.slice A0 l0.length c0, .slice A1 l1.length c1] w fun e w' => e = .returned (.bool r) ∧ Drawn0 w w' := by
  have HR0 := Aside0.mk hr0
  have HC0 := Aside0.mk hc0
  clear hr0 hc0
  have HR1 := Aside0.mk hr1
  have HC1 := Aside0.mk hc1
  clear hr1 hc1
  have H := h
  unfold slices_Equal_int_int.f at H
  clear h
  by_cases c3 : (l0.length : Int) = (l1.length : Int)
  · rw [if_pos c3] at H
    have c3b0 : ((l0.length : Int) == (l1.length : Int)) = true := beq_iff_eq.mpr c3
    have c3b1 : ((l0.length : Int) != (l1.length : Int)) = false := bne_eq_false_iff_eq.mpr c3
    have c3b2 : (l0.length == l1.length) = true := by first | simpa using c3 | (simp at c3 ⊢; omega)
    clear c3
    have H' := Aside0.mk H
    clear H
    go_enter Try.func116, Try.ntmps116
    go_wp2
    repeat (go_quiet (fail); try go_wp2)
    go_loopg [13] k (fun kq v13 w' => ∃ (x13_1 : Int), v13 = .int .i64 x13_1 ∧ Aside0 (slices_Equal_int_int.l0 kq l0 l1 (l0.length : Int) x13_1 = some r) ∧ Aside0 (kq ≤ k) ∧ Drawn0 w w')
    case atStart => exact ⟨(0), qc_, H', ⟨Nat.le_refl _⟩, by repeat (first | exact Drawn0.refl _ | apply Drawn0.step)⟩
    case round =>
      clear H'
      obtain ⟨x13_1, rfl, HA, HK1, ⟨m1, rfl⟩⟩ := hrel
      cases gk with
      | zero => exact absurd HA.out (by simp [slices_Equal_int_int.l0])
      | succ k1 =>
        have H := HA.out
        clear HA
        simp only [slices_Equal_int_int.l0] at H
        by_cases c4 : x13_1 < (l0.length : Int)
        · rw [if_pos c4] at H
          have c4b0 := decide_eq_true c4
          clear c4
          have c5 := cp_ H
          replace H := ca_ H
          have c5b0 := decide_eq_true c5
          clear c5
          have c6 := cp_ H
          replace H := ca_ H
          have c6b0 := decide_eq_true c6
          clear c6
          have c7 := cp_ H
          replace H := ca_ H
          have c7b0 := decide_eq_true c7
          clear c7
          by_cases c8 : (rd l0 x13_1) = (rd l1 x13_1)
          · rw [if_pos c8] at H
            have c8b0 : ((rd l0 x13_1) == (rd l1 x13_1)) = true := beq_iff_eq.mpr c8
            have c8b1 : ((rd l0 x13_1) != (rd l1 x13_1)) = false := bne_eq_false_iff_eq.mpr c8
            clear c8
            have H' := Aside0.mk H
            clear H
            have p420 : 0 ≤ (x13_1 : Int) := of_decide_eq_true qe_
            have q420 : x13_1 < (l0.length : Int) := of_decide_eq_true qe_
            obtain ⟨ad420, e420, hx420_0⟩ := Kd.at_int HR0.out x13_1 p420 q420
            cases e420
            replace p420 := eq_true p420
            replace q420 := eq_true q420
            have p421 : 0 ≤ (x13_1 : Int) := of_decide_eq_true qe_
            have q421 : x13_1 < (l1.length : Int) := of_decide_eq_true qe_
            obtain ⟨ad421, e421, hx421_0⟩ := Kd.at_int HR1.out x13_1 p421 q421
            cases e421
            replace p421 := eq_true p421
            replace q421 := eq_true q421
            go_wp2
            repeat (go_quiet (fail); try go_wp2)
            go_roundg k1
            case measure => have := HK1.out; omega
            case rel => exact ⟨(wrap64 (x13_1 + 1)), qc_, H', ⟨by have := HK1.out; omega⟩, by repeat (first | exact Drawn0.refl _ | apply Drawn0.step)⟩
          · rw [if_neg c8] at H
            have c8b0 : ((rd l0 x13_1) == (rd l1 x13_1)) = false := beq_eq_false_iff_ne.mpr c8
            have c8b1 : ((rd l0 x13_1) != (rd l1 x13_1)) = true := bne_iff_ne.mpr c8
            obtain rfl := Option.some.inj H
            have p420 : 0 ≤ (x13_1 : Int) := of_decide_eq_true qe_
            have q420 : x13_1 < (l0.length : Int) := of_decide_eq_true qe_
            obtain ⟨ad420, e420, hx420_0⟩ := Kd.at_int HR0.out x13_1 p420 q420
            cases e420
            replace p420 := eq_true p420
            replace q420 := eq_true q420
            have p421 : 0 ≤ (x13_1 : Int) := of_decide_eq_true qe_
            have q421 : x13_1 < (l1.length : Int) := of_decide_eq_true qe_
            obtain ⟨ad421, e421, hx421_0⟩ := Kd.at_int HR1.out x13_1 p421 q421
            cases e421
            replace p421 := eq_true p421
            replace q421 := eq_true q421
            go_wp2
            repeat (go_quiet (fail); try go_wp2)
            go_ret
            exact ⟨qc_, by repeat (first | exact Drawn0.refl _ | apply Drawn0.step)⟩
        · rw [if_neg c4] at H
          have c4b0 := decide_eq_false c4
          clear c4
          obtain rfl := Option.some.inj H
          go_wp2
          repeat (go_quiet (fail); try go_wp2)
          go_ret
          exact ⟨qc_, by repeat (first | exact Drawn0.refl _ | apply Drawn0.step)⟩
  · rw [if_neg c3] at H
    have c3b0 : ((l0.length : Int) == (l1.length : Int)) = false := beq_eq_false_iff_ne.mpr c3
    have c3b1 : ((l0.length : Int) != (l1.length : Int)) = true := bne_iff_ne.mpr c3
    have c3b2 : (l0.length == l1.length) = false := by first | simpa using c3 | (simp at c3 ⊢; omega)
    obtain rfl := Option.some.inj H
    go_enter Try.func116, Try.ntmps116
    go_wp2
    repeat (go_quiet (fail); try go_wp2)
    go_ret
    exact ⟨qc_, by repeat (first | exact Drawn0.refl _ | apply Drawn0.step)⟩
end Go.Proofs.Ytcggfjpnfodbaaa.A
end
section
namespace Go.Proofs.Ytcggfjpnfodbaaa.A
open Go.RowKit Go.Proofs.YtcggfjpnfodbaaaW.PrintWords Go.Proofs.YtcggfjpnfodbaaaW.PrintLast Go.Proofs.YtcggfjpnfodbaaaW.PrintMore
attribute [local go_sem] max2_int min2_int max_two min_two max_three min_three max_four min_four
set_option linter.unusedVariables false
set_option linter.unusedSimpArgs false
def impl_SameList.f (k : Nat) (l0 : List Int) (l1 : List Int) : Option (Bool) := (slices_Equal_int_int.f k l0 l1).bind fun t422 => (some t422)
theorem impl_SameList.mono : ∀ a0 a1 k, LeO (impl_SameList.f k a0 a1) (impl_SameList.f (k + 1) a0 a1) := by
  intro a0 a1 k
  unfold impl_SameList.f
  repeat' first|exact slices_Equal_int_int.mono _ _ _|exact lo_|refine LeO.ite ?_ ?_|refine LeO.bind ?_ (fun _ => ?_)
set_option maxHeartbeats 8000000 in
set_option maxRecDepth 100000 in
theorem impl_SameList.calls (k : Nat) (A0 : Option Addr) (c0 : Nat) (l0 : List Int) (A1 : Option Addr) (c1 : Nat) (l1 : List Int) (r : Bool) (w : World) (hr0 : Kd.C (Kd.int .i64) w A0 l0.length l0) (hc0 : l0.length ≤ c0) (hr1 : Kd.C (Kd.int .i64) w A1 l1.length l1) (hc1 : l1.length ≤ c1) (h : impl_SameList.f k l0 l1 = some r) :
    Calls Try.prog 78 #[.slice A0 l0.length c0, .slice A1 l1.length c1] w fun e w' => e = .returned (.bool r) ∧ Drawn0 w w' := by
  have HR0 := Aside0.mk hr0
  have HC0 := Aside0.mk hc0
  clear hr0 hc0
  have HR1 := Aside0.mk hr1
  have HC1 := Aside0.mk hc1
  clear hr1 hc1
  have H := h
  unfold impl_SameList.f at H
  clear h
  obtain ⟨t422, A3, H⟩ := bi_ H
  obtain rfl := Option.some.inj H
  go_enter Try.func78, Try.ntmps78
  go_wp2_with (first | ((with_reducible refine gate_callee (f := 116) rfl ?_); refine gL_ (some 7) Try.func116 #[.slice A0 l0.length c0, .slice A1 l1.length c1] rfl qa_ ?_; (with_reducible refine (slices_Equal_int_int.calls k _ _ l0 _ _ l1 t422 _ (cc_ HR0) HC0.out (cc_ HR1) HC1.out A3.out).mono ?_); rintro e w' ⟨rfl, ⟨nd, rfl⟩⟩; refine ⟨_, rfl, ?_⟩))
  go_ret
  exact ⟨qc_, by repeat (first | exact Drawn0.refl _ | apply Drawn0.step)⟩
end Go.Proofs.Ytcggfjpnfodbaaa.A
end
section
namespace Go.Proofs.Ytcggfjpnfodbaaa.A
open Go.RowKit Go.Proofs.YtcggfjpnfodbaaaW.PrintWords Go.Proofs.YtcggfjpnfodbaaaW.PrintLast Go.Proofs.YtcggfjpnfodbaaaW.PrintMore
attribute [local go_sem] max2_int min2_int max_two min_two max_three min_three max_four min_four
set_option linter.unusedVariables false
set_option linter.unusedSimpArgs false
def impl_SameSurface.f (k : Nat) (l0_0 : List Int) (l0_1 : List Int) (l1_0 : List Int) (l1_1 : List Int) : Option (Bool) := (impl_SameList.f k l0_0 l1_0).bind fun t425 => (if t425 = true then ((impl_SameList.f k l0_1 l1_1).bind fun t426 => (some t426)) else (some false))
theorem impl_SameSurface.mono : ∀ a0 a1 a2 a3 k, LeO (impl_SameSurface.f k a0 a1 a2 a3) (impl_SameSurface.f (k + 1) a0 a1 a2 a3) := by
  intro a0 a1 a2 a3 k
  unfold impl_SameSurface.f
  repeat' first|exact impl_SameList.mono _ _ _|exact lo_|refine LeO.ite ?_ ?_|refine LeO.bind ?_ (fun _ => ?_)
set_option maxHeartbeats 8000000 in
set_option maxRecDepth 100000 in
theorem impl_SameSurface.calls (k : Nat) (A0_0 : Option Addr) (c0_0 : Nat) (l0_0 : List Int) (A0_1 : Option Addr) (c0_1 : Nat) (l0_1 : List Int) (A1_0 : Option Addr) (c1_0 : Nat) (l1_0 : List Int) (A1_1 : Option Addr) (c1_1 : Nat) (l1_1 : List Int) (r : Bool) (w : World) (hr0_0 : Kd.C (Kd.int .i64) w A0_0 l0_0.length l0_0) (hc0_0 : l0_0.length ≤ c0_0) (hr0_1 : Kd.C (Kd.int .i64) w A0_1 l0_1.length l0_1) (hc0_1 : l0_1.length ≤ c0_1) (hr1_0 : Kd.C (Kd.int .i64) w A1_0 l1_0.length l1_0) (hc1_0 : l1_0.length ≤ c1_0) (hr1_1 : Kd.C (Kd.int .i64) w A1_1 l1_1.length l1_1) (hc1_1 : l1_1.length ≤ c1_1) (h : impl_SameSurface.f k l0_0 l0_1 l1_0 l1_1 = some r) :
    Calls Try.prog 29 #[.agg #[.slice A0_0 l0_0.length c0_0, .slice A0_1 l0_1.length c0_1], .agg #[.slice A1_0 l1_0.length c1_0, .slice A1_1 l1_1.length c1_1]] w fun e w' => e = .returned (.bool r) ∧ Below w.heap.size w w' := by
  have hu25 := Try.underlying25
  have HR0_0 := Aside0.mk hr0_0
  have HC0_0 := Aside0.mk hc0_0
  clear hr0_0 hc0_0
  have HR0_1 := Aside0.mk hr0_1
  have HC0_1 := Aside0.mk hc0_1
  clear hr0_1 hc0_1
  have HR1_0 := Aside0.mk hr1_0
  have HC1_0 := Aside0.mk hc1_0
  clear hr1_0 hc1_0
  have HR1_1 := Aside0.mk hr1_1
  have HC1_1 := Aside0.mk hc1_1
  clear hr1_1 hc1_1
  have HB := Aside0.mk (Below.refl w.heap.size w)
  have H := h
  unfold impl_SameSurface.f at H
  clear h
  obtain ⟨t425, A3, H⟩ := bi_ H
  by_cases c4 : t425 = true
  · subst c4
    rw [if_pos rfl] at H
    obtain ⟨t426, A5, H⟩ := bi_ H
    obtain rfl := Option.some.inj H
    go_enter Try.func29, Try.ntmps29
    go_wp2_with (first | ((with_reducible refine gate_dst (N := 2) rfl ?_); refine bx_ 2 #[.slice A0_0 l0_0.length c0_0, .slice A0_1 l0_1.length c0_1] 25 ?_; intro gb423 hg w6 hbox hb; have BK423 := Aside0.mk hbox; have GW423 := gw_ w hg; have GE423 := GW423; replace HB := b1_ hb; clear hb hbox hg) | ((with_reducible refine gate_dst (N := 3) rfl ?_); refine bx_ 3 #[.slice A1_0 l1_0.length c1_0, .slice A1_1 l1_1.length c1_1] 25 ?_; intro gb424 hg w7 hbox hb; have BK424 := Aside0.mk hbox; have GW424 := gw_ w hg; have GE424 := GW424; replace HB := b1_ hb; have NB423_424 := gN_ BK423 hg; have NB424_423 := gP_ BK423 hg; replace BK423 := bb_ BK423 hb; clear hb hbox hg; have hnb8 := NB423_424.out; have hnc8 := NB424_423.out; obtain ⟨hcz9_0, hcz9_1, hfz9_0, hfz9_1⟩ := c2_ BK423; obtain ⟨hcz10_0, hcz10_1, hfz10_0, hfz10_1⟩ := c2_ BK424) | ((with_reducible refine gate_callee (f := 78) rfl ?_); refine gL_ (some 9) Try.func78 #[.slice A0_0 l0_0.length c0_0, .slice A1_0 l1_0.length c1_0] rfl qa_ ?_; (with_reducible refine (impl_SameList.calls k _ _ l0_0 _ _ l1_0 true _ (cb_ HR0_0) HC0_0.out (cb_ HR1_0) HC1_0.out A3.out).mono ?_); rintro e w' ⟨rfl, ⟨nd, rfl⟩⟩; refine ⟨_, rfl, ?_⟩) | (go_at_call 78; (with_reducible refine (impl_SameList.calls k _ _ l0_1 _ _ l1_1 t426 _ (cw_ (Kd.C_below HR0_1.out hB_)) HC0_1.out (cw_ (Kd.C_below HR1_1.out hB_)) HC1_1.out A5.out).mono ?_); rintro e w' ⟨rfl, ⟨nd, rfl⟩⟩))
    go_ret
    exact ⟨qb_, hB_⟩
  · replace c4 := Bool.eq_false_iff.mpr c4
    subst c4
    have H1 : (some false) = some r := by rw [if_neg (show ¬ (false = true) by decide)] at H; exact H
    clear H
    have H := H1
    clear H1
    obtain rfl := Option.some.inj H
    go_enter Try.func29, Try.ntmps29
    go_wp2_with (first | ((with_reducible refine gate_dst (N := 2) rfl ?_); refine bx_ 2 #[.slice A0_0 l0_0.length c0_0, .slice A0_1 l0_1.length c0_1] 25 ?_; intro gb423 hg w11 hbox hb; have BK423 := Aside0.mk hbox; have GW423 := gw_ w hg; have GE423 := GW423; replace HB := b1_ hb; clear hb hbox hg) | ((with_reducible refine gate_dst (N := 3) rfl ?_); refine bx_ 3 #[.slice A1_0 l1_0.length c1_0, .slice A1_1 l1_1.length c1_1] 25 ?_; intro gb424 hg w12 hbox hb; have BK424 := Aside0.mk hbox; have GW424 := gw_ w hg; have GE424 := GW424; replace HB := b1_ hb; have NB423_424 := gN_ BK423 hg; have NB424_423 := gP_ BK423 hg; replace BK423 := bb_ BK423 hb; clear hb hbox hg; have hnb13 := NB423_424.out; have hnc13 := NB424_423.out; obtain ⟨hcz14_0, hcz14_1, hfz14_0, hfz14_1⟩ := c2_ BK423; obtain ⟨hcz15_0, hcz15_1, hfz15_0, hfz15_1⟩ := c2_ BK424) | ((with_reducible refine gate_callee (f := 78) rfl ?_); refine gL_ (some 9) Try.func78 #[.slice A0_0 l0_0.length c0_0, .slice A1_0 l1_0.length c1_0] rfl qa_ ?_; (with_reducible refine (impl_SameList.calls k _ _ l0_0 _ _ l1_0 false _ (cb_ HR0_0) HC0_0.out (cb_ HR1_0) HC1_0.out A3.out).mono ?_); rintro e w' ⟨rfl, ⟨nd, rfl⟩⟩; refine ⟨_, rfl, ?_⟩))
    go_ret
    exact ⟨qb_, hB_⟩
end Go.Proofs.Ytcggfjpnfodbaaa.A
end
section
/- The place of a surface in a list: the walk of the program's look-up. No conditions. -/
namespace Go.Proofs.Ytcggfjpnfodbaaa.M
set_option linter.unusedVariables false
set_option linter.unusedSimpArgs false
open Go Go.RowKit Go.Proofs.YtcggfjpnfodbaaaW.PrintWords Go.Proofs.YtcggfjpnfodbaaaW.PrintLast Go.Proofs.YtcggfjpnfodbaaaW.PrintMore Go.Proofs.Ytcggfjpnfodbaaa.A
def idxS (k : Nat) (r u : List Int) : List S25 → Nat → Option Int
  | [], _ => some (-1)
  | x :: xs, i => (impl_SameSurface.f k x.f0 x.f1 r u).bind fun b => if b = true then some (i : Int) else idxS k r u xs (i + 1)
def indexO (k : Nat) (l : List S25) (r u : List Int) : Option Int := if l.length < 4611686018427387904 then idxS k r u l 0 else none
set_option maxHeartbeats 8000000 in
set_option maxRecDepth 100000 in
theorem index_closure (k : Nat) (gs : Nat) (A0 : Option Addr) (c0 : Nat) (l0 : List Int) (A1 : Option Addr) (c1 : Nat) (l1 : List Int) (B0 : Option Addr) (d0 : Nat) (r : List Int) (B1 : Option Addr) (d1 : Nat) (u : List Int) (b : Bool) (w : World)
    (h0 : Kd.C (Kd.int .i64) w A0 l0.length l0) (g0 : l0.length ≤ c0) (h1 : Kd.C (Kd.int .i64) w A1 l1.length l1) (g1 : l1.length ≤ c1) (h2 : Kd.C (Kd.int .i64) w B0 r.length r) (g2 : r.length ≤ d0) (h3 : Kd.C (Kd.int .i64) w B1 u.length u) (g3 : u.length ≤ d1)
    (hs : w.heap[gs]? = some (.cells #[.slice B0 r.length d0, .slice B1 u.length d1] 25 (0, 0))) (h : impl_SameSurface.f k l0 l1 r u = some b) :
    Calls Try.prog 109 #[.agg #[.slice A0 l0.length c0, .slice A1 l1.length c1], .pointer (some ⟨gs, 0, none⟩)] w fun e w' => e = .returned (.bool b) ∧ Below w.heap.size w w' := by
  have hu := Try.underlying25
  have H0 := Aside0.mk h0; have H1 := Aside0.mk h1; have H2 := Aside0.mk h2; have H3 := Aside0.mk h3
  have G0 := Aside0.mk g0; have G1 := Aside0.mk g1; have G2 := Aside0.mk g2; have G3 := Aside0.mk g3
  have BS := Aside0.mk hs; have HA := Aside0.mk h
  clear h0 h1 h2 h3 g0 g1 g2 g3 hs h
  have HB := Aside0.mk (Below.refl w.heap.size w)
  go_enter Try.func109, Try.ntmps109
  go_wp2_with (first | ((with_reducible refine gate_dst (N := 2) rfl ?_); refine bx_ 2 #[.slice A0 l0.length c0, .slice A1 l1.length c1] 25 ?_; intro gb hg w2 hbox hb; have BK := Aside0.mk hbox; have BT := bb_ BS hb; replace HB := b1_ hb; clear hb hbox hg; obtain ⟨hcz0, hcz1, hfz0, hfz1⟩ := c2_ BK; obtain ⟨hcy0, hcy1, hfy0, hfy1⟩ := c2_ BT) | ((with_reducible refine gate_callee (f := 29) rfl ?_); refine gL_ (some 6) Try.func29 #[.agg #[.slice A0 l0.length c0, .slice A1 l1.length c1], .agg #[.slice B0 r.length d0, .slice B1 u.length d1]] rfl qa_ ?_; (with_reducible refine (impl_SameSurface.calls k _ _ l0 _ _ l1 _ _ r _ _ u b _ (cb_ H0) G0.out (cb_ H1) G1.out (cb_ H2) G2.out (cb_ H3) G3.out HA.out).mono ?_); rintro e w3 ⟨rfl, hb⟩; refine ⟨_, rfl, ?_⟩; replace HB := b1_ hb; clear hb))
  go_ret
  exact ⟨qb_, hB_⟩
set_option maxHeartbeats 8000000 in
set_option maxRecDepth 100000 in
theorem index_main (k : Nat) (gf : Nat) (lb : Array Value) (eg : ∀ args w, (callFunc gf args).run Try.prog w = .ok (.enter gf args) w) (A0 : Option Addr) (c0 : Nat) (l0 : List S25) (r u : List Int) (j : Int) (w : World) (hr0 : Kd.C k25 w A0 l0.length l0) (hc0 : l0.length ≤ c0) (h : indexO k l0 r u = some j)
    (hcl : ∀ (A0 : Option Addr) (c0 : Nat) (l0 : List Int) (A1 : Option Addr) (c1 : Nat) (l1 : List Int) (b : Bool) (w1 : World), Below w.heap.size w w1 → Kd.C (Kd.int .i64) w1 A0 l0.length l0 → l0.length ≤ c0 → Kd.C (Kd.int .i64) w1 A1 l1.length l1 → l1.length ≤ c1 → impl_SameSurface.f k l0 l1 r u = some b → Calls Try.prog gf (#[.agg #[.slice A0 l0.length c0, .slice A1 l1.length c1]] ++ lb) w1 fun e w' => e = .returned (.bool b) ∧ Below w1.heap.size w1 w') :
    Calls Try.prog 108 #[.slice A0 l0.length c0, .func (.func gf) #[] lb] w fun e w' => e = .returned (.int .i64 j) ∧ Below w.heap.size w w' := by
  have hu := Try.underlying25
  have HR0 := Aside0.mk hr0
  have HC0 := Aside0.mk hc0
  have HB := Aside0.mk (Below.refl w.heap.size w)
  have hsm : l0.length < 4611686018427387904 := by
    unfold indexO at h
    split at h
    · assumption
    · cases h
  have H' : Aside0 (idxS k r u (l0.drop 0) 0 = some j) := ⟨by
    unfold indexO at h
    rw [if_pos hsm] at h
    exact h⟩
  clear hr0 hc0 h
  replace hcl := Aside0.mk hcl
  go_enter Try.func108, Try.ntmps108
  go_wp2
  go_loopg [5, 8] l0.length (fun gg _ s8 wr => ∃ kk : Nat, s8 = .int .i64 kk ∧ Aside0 (kk ≤ l0.length) ∧ Aside0 (l0.length - kk ≤ gg) ∧ Aside0 (idxS k r u (l0.drop kk) kk = some j) ∧ Aside0 (Below w.heap.size w wr))
  case atStart => exact ⟨0, rfl, ⟨Nat.zero_le _⟩, ⟨by omega⟩, H', ⟨by repeat (first | (with_reducible first | exact HB.out | apply below_alloc | apply pw_below_drewN | apply below_drew1) | exact HB.out)⟩⟩
  case round =>
    clear H' HB
    obtain ⟨kk, rfl, HK, HG, HA, HB⟩ := hrel
    by_cases hlt : kk < l0.length
    · have hltz : (kk : Int) < (l0.length : Int) := by omega
      have h0z : (0 : Int) ≤ (kk : Int) := Int.natCast_nonneg kk
      have H := HA.out
      have hdr : l0.drop kk = rd_T25 l0 (kk : Int) :: l0.drop (kk + 1) := by
        rw [List.drop_eq_getElem_cons hlt]
        congr 1
        simp [rd_T25, hlt]
      rw [hdr] at H
      simp only [idxS] at H
      obtain ⟨b, Hb, H⟩ := bi_ H
      obtain ⟨ad1, A1, c1, A2, c2, e1, hx1, hx2, hl1, hi1, hl2, hi2⟩ := at_T25 (Kd.C_below HR0.out HB.out) (kk : Int) h0z hltz
      cases e1
      rw [show ((kk : Int)).toNat = kk from rfl] at hx1 hx2
      have HI1 := Aside0.mk hi1
      have HI2 := Aside0.mk hi2
      have HL1 := Aside0.mk hl1
      have HL2 := Aside0.mk hl2
      clear hi1 hi2 hl1 hl2
      cases b with
      | true =>
        rw [if_pos rfl] at H
        obtain rfl := Option.some.inj H
        clear H
        go_wp2_with (fail)
        refine (hcl.out _ _ (rd_T25 l0 (kk : Int)).f0 _ _ (rd_T25 l0 (kk : Int)).f1 true wr HB.out HI1.out HL1.out HI2.out HL2.out Hb.out).mono ?_
        rintro e w2 ⟨rfl, hb⟩
        have HB2 := Aside0.mk (below_step HB.out hb)
        clear hb
        go_wp2
        go_ret
        exact ⟨rfl, by repeat (first | (with_reducible first | exact HB2.out | apply below_alloc | apply pw_below_drewN | apply below_drew1) | exact HB2.out)⟩
      | false =>
        rw [if_neg (by decide)] at H
        have H2 := Aside0.mk H
        clear H
        go_wp2_with (fail)
        refine (hcl.out _ _ (rd_T25 l0 (kk : Int)).f0 _ _ (rd_T25 l0 (kk : Int)).f1 false wr HB.out HI1.out HL1.out HI2.out HL2.out Hb.out).mono ?_
        rintro e w2 ⟨rfl, hb⟩
        have HB2 := Aside0.mk (below_step HB.out hb)
        clear hb
        go_wp2
        go_roundg (l0.length - (kk + 1))
        case measure => have := HG.out; omega
        case rel => exact ⟨kk + 1, by congr 1, ⟨by omega⟩, ⟨by omega⟩, H2, ⟨by repeat (first | (with_reducible first | exact HB2.out | apply below_alloc | apply pw_below_drewN | apply below_drew1) | exact HB2.out)⟩⟩
    · have hltz : ¬ (kk : Int) < (l0.length : Int) := by omega
      have H := HA.out
      rw [List.drop_eq_nil_of_le (by omega)] at H
      simp only [idxS] at H
      obtain rfl := Option.some.inj H
      clear H
      go_wp2
      go_ret
      exact ⟨rfl, by repeat (first | (with_reducible first | exact HB.out | apply below_alloc | apply pw_below_drewN | apply below_drew1) | exact HB.out)⟩
set_option maxHeartbeats 8000000 in
set_option maxRecDepth 100000 in
theorem index_calls (k : Nat) (gO : Nat) (A0 : Option Addr) (c0 : Nat) (l0 : List S25) (v1 v2 v3 v4 : Value) (B0 : Option Addr) (d0 : Nat) (r : List Int) (B1 : Option Addr) (d1 : Nat) (u : List Int) (j : Int) (w : World) (hr0 : Kd.C k25 w A0 l0.length l0) (hc0 : l0.length ≤ c0) (h2 : Kd.C (Kd.int .i64) w B0 r.length r) (g2 : r.length ≤ d0) (h3 : Kd.C (Kd.int .i64) w B1 u.length u) (g3 : u.length ≤ d1)
    (hO : w.heap[gO]? = some (.cells #[.slice A0 l0.length c0, v1, v2, v3, v4] 69 (0, 0))) (h : indexO k l0 r u = some j) :
    Calls Try.prog 72 #[.pointer (some ⟨gO, 0, none⟩), .agg #[.slice B0 r.length d0, .slice B1 u.length d1]] w fun e w' => e = .returned (.int .i64 j) ∧ Below w.heap.size w w' := by
  have hu := Try.underlying25
  have H0 := Aside0.mk hr0; have H2 := Aside0.mk h2; have H3 := Aside0.mk h3
  have G0 := Aside0.mk hc0; have G2 := Aside0.mk g2; have G3 := Aside0.mk g3
  have BO := Aside0.mk hO; have HA := Aside0.mk h
  clear hr0 h2 h3 hc0 g2 g3 hO h
  have HB := Aside0.mk (Below.refl w.heap.size w)
  go_enter Try.func72, Try.ntmps72
  go_wp2_with (first | ((with_reducible refine gate_dst (N := 3) rfl ?_); refine bx_ 3 #[.slice B0 r.length d0, .slice B1 u.length d1] 25 ?_; intro gb hg w2 hbox hb; have BK := Aside0.mk hbox; have BP := bb_ BO hb; replace HB := b1_ hb; clear hb hbox hg; have hco0 : w2.cell? ⟨gO, 0, none⟩ = some (.slice A0 l0.length c0) := (blk_cell BP.out 0).trans rfl; have hfo0 := blk_frozen BP.out 0) | ((with_reducible refine gate_callee (f := 108) rfl ?_); refine gL_ (some 10) Try.func108 #[.slice A0 l0.length c0, .func (.func 109) #[] #[.pointer (some ⟨gb, 0, none⟩)]] rfl qa_ ?_; refine (index_main k 109 #[.pointer (some ⟨gb, 0, none⟩)] (fun args w => enters_ Try.func109 (by kernel_rfl) rfl args w) _ _ l0 r u j _ (cb_ H0) G0.out HA.out (fun A0_ c0_ l0_ A1_ c1_ l1_ b_ w1_ hw_ q0_ q1_ q2_ q3_ q4_ => index_closure k gb A0_ c0_ l0_ A1_ c1_ l1_ B0 d0 r B1 d1 u b_ w1_ q0_ q1_ q2_ q3_ (Kd.C_below (cb_ H2) hw_) G2.out (Kd.C_below (cb_ H3) hw_) G3.out (blk_below BK.out hw_) q4_)).mono ?_; rintro e w3 ⟨rfl, hb⟩; refine ⟨_, rfl, ?_⟩; replace HB := b1_ hb; clear hb))
  go_ret
  exact ⟨qb_, hB_⟩
end Go.Proofs.Ytcggfjpnfodbaaa.M
end
section
namespace Go.Proofs.Ytcggfjpnfodbaaa.A
open Go.RowKit Go.Proofs.YtcggfjpnfodbaaaW.PrintWords Go.Proofs.YtcggfjpnfodbaaaW.PrintLast Go.Proofs.YtcggfjpnfodbaaaW.PrintMore
attribute [local go_sem] max2_int min2_int max_two min_two max_three min_three max_four min_four
set_option linter.unusedVariables false
set_option linter.unusedSimpArgs false
def impl_PermOk.l0 : Nat → List Int → List Bool → Int → Option Bool
  | 0, _, _, _ => none
  | k + 1, l, s, i => if i < (l.length : Int) then (if 0 ≤ i then (if rd l i < 0 then some false else (if rd l i ≥ (l.length : Int) then some false else (if rdOf false s (rd l i) = true then some false else impl_PermOk.l0 k l (s.set (rd l i).toNat true) (wrap64 (i + 1))))) else none) else some true
def impl_PermOk.f (k : Nat) (l0 : List Int) : Option Bool := if (l0.length : Int) > 24 then some false else impl_PermOk.l0 k l0 (List.replicate 24 false) 0
theorem impl_PermOk.mono_l : ∀ k, (∀ y0 y1 y2, LeO (impl_PermOk.l0 k y0 y1 y2) (impl_PermOk.l0 (k + 1) y0 y1 y2))
  | 0 => fun _ _ _ r h => by simp [impl_PermOk.l0] at h
  | k + 1 => by
    have ih0 := impl_PermOk.mono_l k
    · intro y0 y1 y2
      unfold impl_PermOk.l0
      repeat' first|exact ih0 _ _ _|exact lo_|refine LeO.ite ?_ ?_|refine LeO.bind ?_ (fun _ => ?_)
theorem impl_PermOk.mono : ∀ a0 k, LeO (impl_PermOk.f k a0) (impl_PermOk.f (k + 1) a0) := by
  intro a0 k
  unfold impl_PermOk.f
  exact LeO.ite (LeO.refl _) (impl_PermOk.mono_l k _ _ _)
def Z24 : Array Value := #[Value.bool false, Value.bool false, Value.bool false, Value.bool false, Value.bool false, Value.bool false, Value.bool false, Value.bool false, Value.bool false, Value.bool false, Value.bool false, Value.bool false, Value.bool false, Value.bool false, Value.bool false, Value.bool false, Value.bool false, Value.bool false, Value.bool false, Value.bool false, Value.bool false, Value.bool false, Value.bool false, Value.bool false]
theorem row_same (w : World) (g : Nat) (t : TypeId) (cur : Array Value) (hg : w.heap[g]? = some (.cells cur t (0, 0))) : w.setRow g cur = w := by
  have hv : ∀ h, w.heap[g]'h = .cells cur t (0, 0) := fun h => (Array.getElem?_eq_some_iff.1 hg).2
  unfold World.setRow
  cases w with
  | mk heap tape drawn os output =>
    congr 1
    apply Array.ext
    · simp
    · intro k h1 h2
      simp only [Array.getElem_modify]
      split
      · rename_i hk; subst hk; simp at hv; simp [hv h2]
      · rfl
theorem wpList_val {P : Program} {ops : Array Oper} {rest : List Oper} {o : Oper} {a : Act} {Q : Exit → Act → World → Prop} {w : World} (hg : o.guard = none) (v : Value) (w1 : World) (hrun : (execOp a.eval o).run P w = .ok (.value v) w1) (h : wpList P ops Q rest (a.put o.dst v) w1) : wpList P ops Q (o :: rest) a w :=
  wpList_plain hg fun K hK => by unfold Oper.wp; rw [hrun]; exact hK _ _ h
theorem perm_start (w : World) : Kd.R Kd.bool 130 (w.alloc (.cells Z24 130)) w.heap.size (fun _ => True) (.slice (some ⟨w.heap.size, 0, none⟩) 24 24) (List.replicate 24 false) := by
  have h := World.ownsRow_lit (base := w.heap.size) (e := 130) (size := 1) w Z24 24 (Nat.le_refl _) (by unfold maxLen; omega) rfl
  exact Kd.R_of_own (xs := List.replicate 24 false) h (fun _ _ => trivial)
set_option maxHeartbeats 8000000 in
set_option maxRecDepth 100000 in
theorem impl_PermOk.calls (k : Nat) (A0 : Option Addr) (c0 : Nat) (l0 : List Int) (r : Bool) (w : World) (hr0 : Kd.C (Kd.int .i64) w A0 l0.length l0) (hc0 : l0.length ≤ c0) (h : impl_PermOk.f k l0 = some r) :
    Calls Try.prog 107 #[.slice A0 l0.length c0] w fun e w' => e = .returned (.bool r) ∧ Below w.heap.size w w' := by
  have HR0 := Aside0.mk hr0
  have HC0 := Aside0.mk hc0
  clear hr0 hc0
  have hst := perm_start w
  have HST := Aside0.mk hst
  clear hst
  have hb0 : Below w.heap.size w (w.alloc (.cells Z24 130)) := (Below.refl _ _).alloc (Nat.le_refl _) _
  have HB0 := Aside0.mk hb0
  clear hb0
  unfold impl_PermOk.f at h
  by_cases c2 : (l0.length : Int) > 24
  · rw [if_pos c2] at h
    have c2b0 : decide (24 < (l0.length : Int)) = true := decide_eq_true c2
    have c2b1 : decide (24 < l0.length) = true := decide_eq_true (by omega)
    clear c2
    obtain rfl := Option.some.inj h
    go_enter Try.func107, Try.ntmps107
    go_upto_region 1 with (fail)
    refine wp_region_lit ?_
    refine wpList_val rfl (.agg Z24) w (by as_aux_lemma => kernel_rfl) ?_
    refine wpList_val rfl (.pointer (some ⟨w.heap.size, 0, none⟩)) (w.alloc (.cells Z24 130)) (by as_aux_lemma => kernel_rfl) ?_
    refine wpList_store_row rfl 130 (.tmp 3) (.tmp 6) rfl w.heap.size Z24 rfl rfl 130 Z24 (heap_alloc_new _ _) (by as_aux_lemma => kernel_rfl) rfl (by as_aux_lemma => kernel_rfl) ?_
    rw [row_same _ _ _ _ (heap_alloc_new _ _)]
    generalize w.alloc (.cells Z24 130) = wq at HB0 ⊢
    generalize Value.agg Z24 = ag
    go_wp2
    go_ret
    exact ⟨rfl, HB0.out⟩
  · rw [if_neg c2] at h
    have hn : l0.length ≤ 24 := by omega
    have HN := Aside0.mk hn
    clear hn
    have c2b0 : decide (24 < (l0.length : Int)) = false := decide_eq_false c2
    have c2b1 : decide (24 < l0.length) = false := decide_eq_false (by omega)
    clear c2
    have H' := Aside0.mk h
    clear h
    go_enter Try.func107, Try.ntmps107
    go_upto_region 1 with (fail)
    refine wp_region_lit ?_
    refine wpList_val rfl (.agg Z24) w (by as_aux_lemma => kernel_rfl) ?_
    refine wpList_val rfl (.pointer (some ⟨w.heap.size, 0, none⟩)) (w.alloc (.cells Z24 130)) (by as_aux_lemma => kernel_rfl) ?_
    refine wpList_store_row rfl 130 (.tmp 3) (.tmp 6) rfl w.heap.size Z24 rfl rfl 130 Z24 (heap_alloc_new _ _) (by as_aux_lemma => kernel_rfl) rfl (by as_aux_lemma => kernel_rfl) ?_
    rw [row_same _ _ _ _ (heap_alloc_new _ _)]
    generalize w.alloc (.cells Z24 130) = wq at HB0 HST ⊢
    generalize Value.agg Z24 = ag
    go_wp2
    go_loopg [12] k (fun kq v12 w' => ∃ (s : List Bool) (i : Int), v12 = .int .i64 i ∧ Aside0 (impl_PermOk.l0 kq l0 s i = some r) ∧ Aside0 (kq ≤ k) ∧ Aside0 (s.length = 24) ∧ Aside0 (Kd.R Kd.bool 130 w' w.heap.size (fun _ => True) (.slice (some ⟨w.heap.size, 0, none⟩) 24 24) s) ∧ Aside0 (Below w.heap.size w w'))
    case atStart => exact ⟨List.replicate 24 false, 0, rfl, H', ⟨Nat.le_refl _⟩, ⟨rfl⟩, HST, HB0⟩
    case round =>
      clear H' HST HB0
      obtain ⟨s, i, rfl, HA, HK1, HS, HO, HB⟩ := hrel
      cases gk with
      | zero => exact absurd HA.out (by simp [impl_PermOk.l0])
      | succ k1 =>
        have H := HA.out
        clear HA
        simp only [impl_PermOk.l0] at H
        by_cases c3 : i < (l0.length : Int)
        · rw [if_pos c3] at H
          have c4 := cp_ H
          replace H := ca_ H
          have c3b0 := decide_eq_true c3
          have c4b0 := decide_eq_true c4
          obtain ⟨ad, e0, hx⟩ := Kd.at_int HR0.out i c4 c3
          cases e0
          replace hx := (HB.out.cell (World.block_lt_of_cell? w _ hx)).trans hx
          replace c3 := eq_true c3
          replace c4 := eq_true c4
          by_cases c5 : rd l0 i < 0
          · rw [if_pos c5] at H
            have c5b0 := decide_eq_true c5
            clear c5
            obtain rfl := Option.some.inj H
            go_wp2
            go_ret
            exact ⟨rfl, HB.out⟩
          · rw [if_neg c5] at H
            have c5b0 := decide_eq_false c5
            by_cases c6 : rd l0 i ≥ (l0.length : Int)
            · rw [if_pos c6] at H
              have c6b0 : decide ((l0.length : Int) ≤ rd l0 i) = true := decide_eq_true c6
              clear c5 c6
              obtain rfl := Option.some.inj H
              go_wp2
              go_ret
              exact ⟨rfl, HB.out⟩
            · rw [if_neg c6] at H
              have c6b0 : decide ((l0.length : Int) ≤ rd l0 i) = false := decide_eq_false c6
              have p1 : 0 ≤ rd l0 i := by omega
              have p2 : rd l0 i < ((24 : Nat) : Int) := by have := HN.out; omega
              have p2' : rd l0 i < 24 := p2
              obtain ⟨hy, hz⟩ := Kd.R_celln false HO.out (rd l0 i) p1 p2
              have p1b : decide (0 ≤ rd l0 i) = true := decide_eq_true p1
              have p2b : decide (rd l0 i < 24) = true := decide_eq_true p2'
              clear c5 c6
              by_cases c7 : rdOf false s (rd l0 i) = true
              · rw [if_pos c7] at H
                rw [c7] at hy
                clear c7
                obtain rfl := Option.some.inj H
                go_wp2
                go_ret
                exact ⟨rfl, HB.out⟩
              · rw [if_neg c7] at H
                replace c7 := Bool.eq_false_iff.mpr c7
                rw [c7] at hy
                clear c7
                have H' := Aside0.mk H
                clear H
                have HP := Kd.R_putg HO.out (rd l0 i) true
                have HP' := Aside0.mk HP
                clear HP
                go_wp2
                go_roundg k1
                case measure => have := HK1.out; omega
                case rel => exact ⟨s.set (rd l0 i).toNat true, wrap64 (i + 1), rfl, H', ⟨by have := HK1.out; omega⟩, ⟨by rw [List.length_set]; exact HS.out⟩, ⟨HP'.out.1⟩, ⟨below_set HB.out (Nat.le_refl _)⟩⟩
        · rw [if_neg c3] at H
          have c3b0 := decide_eq_false c3
          clear c3
          obtain rfl := Option.some.inj H
          go_wp2
          go_ret
          exact ⟨rfl, HB.out⟩
end Go.Proofs.Ytcggfjpnfodbaaa.A
end
section
namespace Go.Proofs.Ytcggfjpnfodbaaa.A
open Go.RowKit Go.Proofs.YtcggfjpnfodbaaaW.PrintWords Go.Proofs.YtcggfjpnfodbaaaW.PrintLast Go.Proofs.YtcggfjpnfodbaaaW.PrintMore
attribute [local go_sem] max2_int min2_int max_two min_two max_three min_three max_four min_four
set_option linter.unusedVariables false
set_option linter.unusedSimpArgs false
mutual
def impl_IsTransitive.j0 : Nat → List Int → List Int → Bool → Option (Bool)
  | 0, _, _, _ => none
  | k + 1, x0, x1, x29 => if x29 = true then (some false) else (if 0 ≤ (x0.length : Int) then (if ((x0.length : Int) : Int).toNat ≤ 281474976710656 then ((some (List.replicate ((x0.length : Int) : Int).toNat false : List Bool)).bind fun y217 => (if 0 < (y217.length : Int) then (impl_IsTransitive.l0 k x0 x1 (y217.set (0 : Int).toNat true) (([0] : List Int)) 0) else (none))) else (none)) else (none))
def impl_IsTransitive.l0 : Nat → List Int → List Int → List Bool → List Int → Int → Option (Bool)
  | 0, _, _, _, _, _ => none
  | k + 1, x0, x1, x5, x6, x7 => if x7 < (x6.length : Int) then (if 0 ≤ x7 then (if 0 ≤ (rd x6 x7) then (if (rd x6 x7) < (x0.length : Int) then (if (rd x6 x7) < (x1.length : Int) then ((some (([rd x0 (rd x6 x7), rd x1 (rd x6 x7)] : List Int) : List Int)).bind fun y228 => (impl_IsTransitive.l1 k x0 x1 x5 x6 x7 y228 (y228.length : Int) 0)) else (none)) else (none)) else (none)) else (none)) else (some ((x6.length : Int) == (x0.length : Int)))
def impl_IsTransitive.l1 : Nat → List Int → List Int → List Bool → List Int → Int → List Int → Int → Int → Option (Bool)
  | 0, _, _, _, _, _, _, _, _ => none
  | k + 1, x0, x1, x5, x6, x7, x56, x57, x58 => if x58 < x57 then (if 0 ≤ x58 then (if x58 < (x56.length : Int) then (if 0 ≤ (rd x56 x58) then (if (rd x56 x58) < (x5.length : Int) then (if (rdOf false x5 (rd x56 x58) = true) then (impl_IsTransitive.l1 k x0 x1 x5 x6 x7 x56 x57 (wrap64 (x58 + 1))) else (if x6.length < 17592186044416 then (impl_IsTransitive.l1 k x0 x1 (x5.set ((rd x56 x58) : Int).toNat true) (x6 ++ [rd x56 x58]) x7 x56 x57 (wrap64 (x58 + 1))) else (none))) else (none)) else (none)) else (none)) else (none)) else (impl_IsTransitive.l0 k x0 x1 x5 x6 (wrap64 (x7 + 1)))
end
def impl_IsTransitive.f (k : Nat) (l0 : List Int) (l1 : List Int) : Option (Bool) := (impl_PermOk.f k l0).bind fun t215 => (if t215 = true then ((impl_PermOk.f k l1).bind fun t216 => (if t216 = true then (if (l0.length : Int) = (l1.length : Int) then (impl_IsTransitive.j0 k l0 l1 ((l0.length : Int) == 0)) else (impl_IsTransitive.j0 k l0 l1 true)) else (impl_IsTransitive.j0 k l0 l1 true))) else (impl_IsTransitive.j0 k l0 l1 true))
theorem impl_IsTransitive.mono_l : ∀ k, (∀ y0 y1 y2, LeO (impl_IsTransitive.j0 k y0 y1 y2) (impl_IsTransitive.j0 (k + 1) y0 y1 y2)) ∧ (∀ y0 y1 y2 y3 y4, LeO (impl_IsTransitive.l0 k y0 y1 y2 y3 y4) (impl_IsTransitive.l0 (k + 1) y0 y1 y2 y3 y4)) ∧ (∀ y0 y1 y2 y3 y4 y5 y6 y7, LeO (impl_IsTransitive.l1 k y0 y1 y2 y3 y4 y5 y6 y7) (impl_IsTransitive.l1 (k + 1) y0 y1 y2 y3 y4 y5 y6 y7))
  | 0 => ⟨fun _ _ _ r h => by simp [impl_IsTransitive.j0] at h, fun _ _ _ _ _ r h => by simp [impl_IsTransitive.l0] at h, fun _ _ _ _ _ _ _ _ r h => by simp [impl_IsTransitive.l1] at h⟩
  | k + 1 => by
    obtain ⟨ih0, ih1, ih2⟩ := impl_IsTransitive.mono_l k
    refine ⟨?_, ?_, ?_⟩
    · intro y0 y1 y2
      unfold impl_IsTransitive.j0
      repeat' first|exact ih0 _ _ _|exact ih1 _ _ _ _ _|exact ih2 _ _ _ _ _ _ _ _|exact impl_PermOk.mono _ _|exact lo_|refine LeO.ite ?_ ?_|refine LeO.bind ?_ (fun _ => ?_)
    · intro y0 y1 y2 y3 y4
      unfold impl_IsTransitive.l0
      repeat' first|exact ih0 _ _ _|exact ih1 _ _ _ _ _|exact ih2 _ _ _ _ _ _ _ _|exact impl_PermOk.mono _ _|exact lo_|refine LeO.ite ?_ ?_|refine LeO.bind ?_ (fun _ => ?_)
    · intro y0 y1 y2 y3 y4 y5 y6 y7
      unfold impl_IsTransitive.l1
      repeat' first|exact ih0 _ _ _|exact ih1 _ _ _ _ _|exact ih2 _ _ _ _ _ _ _ _|exact impl_PermOk.mono _ _|exact lo_|refine LeO.ite ?_ ?_|refine LeO.bind ?_ (fun _ => ?_)
theorem impl_IsTransitive.mono : ∀ a0 a1 k, LeO (impl_IsTransitive.f k a0 a1) (impl_IsTransitive.f (k + 1) a0 a1) := by
  intro a0 a1 k
  obtain ⟨ih0, ih1, ih2⟩ := impl_IsTransitive.mono_l k
  unfold impl_IsTransitive.f
  repeat' first|exact ih0 _ _ _|exact ih1 _ _ _ _ _|exact ih2 _ _ _ _ _ _ _ _|exact impl_PermOk.mono _ _|exact lo_|refine LeO.ite ?_ ?_|refine LeO.bind ?_ (fun _ => ?_)
def impl_IsTransitive.T9 : Bool × List (List Nat × List Nat) := (true, [([], []), ([], []), ([], []), ([1, 2], [1, 2]), ([3], [3]), ([0, 4], [0, 4]), ([5], [5]), ([], []), ([], []), ([], []), ([8, 9], [8, 9]), ([10], [10]), ([7, 11], [7, 11]), ([12], [12]), ([6, 13], [6, 13]), ([14], [14]), ([], [])])
def impl_IsTransitive.B9 : List Nat := [0, 0, 0, 6, 14, 31, 63, 0, 0, 0, 768, 1792, 3968, 8064, 16383, 32767, 0]
theorem impl_IsTransitive.tab9 : rtab .any (opsOf Try.f106 9) = impl_IsTransitive.T9 := by kernel_rfl
theorem impl_IsTransitive.bits9 : waitsOk impl_IsTransitive.T9.2 impl_IsTransitive.B9 = true := by kernel_rfl
set_option maxHeartbeats 8000000 in
set_option maxRecDepth 100000 in
theorem impl_IsTransitive.calls (k : Nat) (A0 : Option Addr) (c0 : Nat) (l0 : List Int) (A1 : Option Addr) (c1 : Nat) (l1 : List Int) (r : Bool) (w : World) (hr0 : Kd.C (Kd.int .i64) w A0 l0.length l0) (hc0 : l0.length ≤ c0) (hr1 : Kd.C (Kd.int .i64) w A1 l1.length l1) (hc1 : l1.length ≤ c1) (h : impl_IsTransitive.f k l0 l1 = some r) :
    Calls Try.prog 106 #[.slice A0 l0.length c0, .slice A1 l1.length c1] w fun e w' => e = .returned (.bool r) ∧ Below w.heap.size w w' := by
  have HR0 := Aside0.mk hr0
  have HC0 := Aside0.mk hc0
  clear hr0 hc0
  have HR1 := Aside0.mk hr1
  have HC1 := Aside0.mk hc1
  clear hr1 hc1
  have HB := Aside0.mk (Below.refl w.heap.size w)
  have H := h
  unfold impl_IsTransitive.f at H
  clear h
  have HC3 := Aside0.mk H
  clear H
  go_enter Try.func106, Try.ntmps106
  go_upto_region 1 with (fail)
  go_cut [29] (fun v29 wc => ∃ (kq : Nat) (x29_2 : Bool), v29 = .bool x29_2 ∧ Aside0 (impl_IsTransitive.j0 kq l0 l1 x29_2 = some r) ∧ Aside0 (kq ≤ k) ∧ Aside0 (Below w.heap.size w wc))
  case first =>
    have H := HC3.out
    clear HC3
    obtain ⟨t215, A4, H⟩ := bi_ H
    by_cases c5 : t215 = true
    · subst c5
      rw [if_pos rfl] at H
      obtain ⟨t216, A6, H⟩ := bi_ H
      by_cases c7 : t216 = true
      · subst c7
        rw [if_pos rfl] at H
        by_cases c8 : (l0.length : Int) = (l1.length : Int)
        · rw [if_pos c8] at H
          have c8b0 : ((l0.length : Int) == (l1.length : Int)) = true := beq_iff_eq.mpr c8
          have c8b1 : ((l0.length : Int) != (l1.length : Int)) = false := bne_eq_false_iff_eq.mpr c8
          have c8b2 : (l0.length == l1.length) = true := by first | simpa using c8 | (simp at c8 ⊢; omega)
          clear c8
          (first | rw [c8b0] | (simp only [i64_w, i32_w]; rw [c8b0]) | skip)
          have H' := Aside0.mk H
          clear H
          go_wp2_with (first | ((with_reducible refine gate_callee (f := 107) rfl ?_); refine gL_ (some 11) Try.func107 #[.slice A0 l0.length c0] rfl qa_ ?_; (with_reducible refine (impl_PermOk.calls k _ _ l0 true _ (cb_ HR0) HC0.out A4.out).mono ?_); rintro e w9 ⟨rfl, hb⟩; refine ⟨_, rfl, ?_⟩; replace HB := b1_ hb; clear hb) | (go_at_call 107; (with_reducible refine (impl_PermOk.calls k _ _ l1 true _ (cb_ HR1) HC1.out A6.out).mono ?_); rintro e w10 ⟨rfl, hb⟩; replace HB := b1_ hb; clear hb))
          go_meet
          case rel => exact ⟨_, (((l0.length : Int) == 0)), qc_, H', ⟨qd_⟩, ⟨hB_⟩⟩
        · rw [if_neg c8] at H
          have c8b0 : ((l0.length : Int) == (l1.length : Int)) = false := beq_eq_false_iff_ne.mpr c8
          have c8b1 : ((l0.length : Int) != (l1.length : Int)) = true := bne_iff_ne.mpr c8
          have c8b2 : (l0.length == l1.length) = false := by first | simpa using c8 | (simp at c8 ⊢; omega)
          (first | rw [c8b0] | (simp only [i64_w, i32_w]; rw [c8b0]) | skip)
          have H' := Aside0.mk H
          clear H
          go_wp2_with (first | ((with_reducible refine gate_callee (f := 107) rfl ?_); refine gL_ (some 11) Try.func107 #[.slice A0 l0.length c0] rfl qa_ ?_; (with_reducible refine (impl_PermOk.calls k _ _ l0 true _ (cb_ HR0) HC0.out A4.out).mono ?_); rintro e w11 ⟨rfl, hb⟩; refine ⟨_, rfl, ?_⟩; replace HB := b1_ hb; clear hb) | (go_at_call 107; (with_reducible refine (impl_PermOk.calls k _ _ l1 true _ (cb_ HR1) HC1.out A6.out).mono ?_); rintro e w12 ⟨rfl, hb⟩; replace HB := b1_ hb; clear hb))
          go_meet
          case rel => exact ⟨_, (true), qc_, H', ⟨qd_⟩, ⟨hB_⟩⟩
      · replace c7 := Bool.eq_false_iff.mpr c7
        subst c7
        have H1 : (impl_IsTransitive.j0 k l0 l1 true) = some r := by rw [if_neg (show ¬ (false = true) by decide)] at H; exact H
        clear H
        have H := H1
        clear H1
        have H' := Aside0.mk H
        clear H
        go_wp2_with (first | ((with_reducible refine gate_callee (f := 107) rfl ?_); refine gL_ (some 11) Try.func107 #[.slice A0 l0.length c0] rfl qa_ ?_; (with_reducible refine (impl_PermOk.calls k _ _ l0 true _ (cb_ HR0) HC0.out A4.out).mono ?_); rintro e w13 ⟨rfl, hb⟩; refine ⟨_, rfl, ?_⟩; replace HB := b1_ hb; clear hb) | (go_at_call 107; (with_reducible refine (impl_PermOk.calls k _ _ l1 false _ (cb_ HR1) HC1.out A6.out).mono ?_); rintro e w14 ⟨rfl, hb⟩; replace HB := b1_ hb; clear hb))
        go_meet
        case rel => exact ⟨_, (true), qc_, H', ⟨qd_⟩, ⟨hB_⟩⟩
    · replace c5 := Bool.eq_false_iff.mpr c5
      subst c5
      have H1 : (impl_IsTransitive.j0 k l0 l1 true) = some r := by rw [if_neg (show ¬ (false = true) by decide)] at H; exact H
      clear H
      have H := H1
      clear H1
      have H' := Aside0.mk H
      clear H
      go_wp2_with (first | ((with_reducible refine gate_callee (f := 107) rfl ?_); refine gL_ (some 11) Try.func107 #[.slice A0 l0.length c0] rfl qa_ ?_; (with_reducible refine (impl_PermOk.calls k _ _ l0 false _ (cb_ HR0) HC0.out A4.out).mono ?_); rintro e w15 ⟨rfl, hb⟩; refine ⟨_, rfl, ?_⟩; replace HB := b1_ hb; clear hb))
      go_meet
      case rel => exact ⟨_, (true), qc_, H', ⟨qd_⟩, ⟨hB_⟩⟩
  case rest =>
    clear HC3
    obtain ⟨kq, x29_2, rfl, HA, HJ2, HB⟩ := hcut
    cases kq with
    | zero => exact absurd HA.out (by simp [impl_IsTransitive.j0])
    | succ kj2 =>
      have H := HA.out
      clear HA
      simp only [impl_IsTransitive.j0] at H
      by_cases c16 : x29_2 = true
      · subst c16
        rw [if_pos rfl] at H
        obtain rfl := Option.some.inj H
        go_wp2
        go_ret
        exact ⟨qb_, hB_⟩
      · replace c16 := Bool.eq_false_iff.mpr c16
        subst c16
        have H1 : (if 0 ≤ (l0.length : Int) then (if ((l0.length : Int) : Int).toNat ≤ 281474976710656 then ((some (List.replicate ((l0.length : Int) : Int).toNat false : List Bool)).bind fun y217 => (if 0 < (y217.length : Int) then (impl_IsTransitive.l0 kj2 l0 l1 (y217.set (0 : Int).toNat true) (([0] : List Int)) 0) else (none))) else (none)) else (none)) = some r := by rw [if_neg (show ¬ (false = true) by decide)] at H; exact H
        clear H
        have H := H1
        clear H1
        have c17 := cp_ H
        replace H := ca_ H
        have c17b0 := eq_true c17
        have c17b1 := decide_eq_true c17
        clear c17
        have c18 := cp_ H
        replace H := ca_ H
        have c18b0 := eq_true c18
        have c18b1 := decide_eq_true c18
        clear c18
        obtain ⟨y217, hy217⟩ : ∃ y_ : List Bool, y_ = (List.replicate ((l0.length : Int) : Int).toNat false) := ⟨_, rfl⟩
        replace H : (if 0 < (y217.length : Int) then (impl_IsTransitive.l0 kj2 l0 l1 (y217.set (0 : Int).toNat true) (([0] : List Int)) 0) else (none)) = some r := by first | (rw [hy217]; exact H) | exact H
        have Ny217 := Aside0.mk hy217
        clear hy217
        have c19 := cp_ H
        replace H := ca_ H
        have c19b0 := decide_eq_true c19
        have c19b1 : decide (0 < y217.length) = true := decide_eq_true (by omega)
        clear c19
        obtain ⟨y220, hy220⟩ : ∃ y_ : List Bool, y_ = (y217.set (0 : Int).toNat true) := ⟨_, rfl⟩
        replace H : (impl_IsTransitive.l0 kj2 l0 l1 y220 (([0] : List Int)) 0) = some r := by first | (rw [hy220]; exact H) | exact H
        have Ny220 := Aside0.mk hy220
        clear hy220
        obtain ⟨y221, hy221⟩ : ∃ y_ : List Int, y_ = (([0] : List Int)) := ⟨_, rfl⟩
        replace H : (impl_IsTransitive.l0 kj2 l0 l1 y220 y221 0) = some r := by first | (rw [hy221]; exact H) | exact H
        have Ny221 := Aside0.mk hy221
        clear hy221
        have H' := Aside0.mk H
        clear H
        go_wp2_with (first | ((with_reducible refine gate_dst (N := 32) rfl ?_); (try (refine gate_guard (by rfl) ?_; dsimp only)); refine Kd.R_make Kd.bool _ 4 rfl (N := 32) rfl 66 _ _ rfl (l0.length : Int) rfl rfl Try.underlying66 (.bool false) 1 info4 rfl (by decide) (by omega) false (ok := fun _ => True) (okp := fun _ => True) rfl (fun _ hk => hk) trivial (of_decide_eq_true qe_) (Nat.le_trans (Nat.mul_le_mul_right _ (of_decide_eq_true qe_ : (l0.length : Int).toNat ≤ 281474976710656)) (by omega)) (Below.refl _ _) (Nat.le_refl _) ?_; intro v218 w21 ho22 hb hg_ hnew_; clear hg_ hnew_; (first | rw [← Ny217.out] at ho22 | (simp only [Int.reduceToNat] at ho22; rw [← Ny217.out] at ho22)); have HO219 := rl_ w ho22; replace HB := b1_ hb; clear hb ho22; have p20 : 0 ≤ (0 : Int) := (by omega); have q20 : (0 : Int) < ((y217.length : Int) : Int) := of_decide_eq_true qe_; have qi20 : (0 < y217.length) = True := eq_true (by omega); obtain ⟨go20, co20, eo20, gb20, gl20, cl20, HG20⟩ := Kd.R_form HO219.out (by omega); (first | cases eo20 | (injection eo20 with ea_ en_ ec_; (first | subst ea_ | (injection ea_ with ea_; subst ea_)); subst ec_; clear en_)); have GB20 := Aside0.mk gb20; have GG20 := Aside0.mk HG20; clear gb20 gl20 HG20; obtain ⟨hx20_0, hf20_0⟩ := Kd.R_celln false HO219.out (0 : Int) p20 q20; (try rw [show ((0 : Int)).toNat = 0 from rfl] at hx20_0); (try simp only [Nat.reduceMul, Nat.zero_mul, Nat.zero_add, Nat.reduceAdd] at hx20_0); (try rw [show ((0 : Int)).toNat = 0 from rfl] at hf20_0); (try simp only [Nat.reduceMul, Nat.zero_mul, Nat.zero_add, Nat.reduceAdd] at hf20_0); replace p20 := eq_true p20; replace q20 := eq_true q20; obtain ⟨hy23_, hz23_⟩ := Kd.R_celln false HO219.out (0 : Int) (by omega) (of_decide_eq_true qe_); (try simp only [Int.reduceToNat, Int.toNat_zero, Int.toNat_ofNat, Nat.reduceMul, Nat.zero_mul, Nat.zero_add] at hy23_ hz23_); (try rw [show ((0 : Int)).toNat = 0 from rfl] at hy23_); (try rw [show ((0 : Int)).toNat = 0 from rfl] at hz23_); have HP23 := Kd.R_putg HO219.out (0 : Int) true) | ((with_reducible refine gate_store (t := 4) (p := 34) rfl ?_); refine store_event (t := 4) (p := 34) (v := ?vo_w24) (w1 := (w21.setCell ⟨go20, (0 : Int).toNat, none⟩ (.bool true))) ?hg ?ho ?hn ?hr ?_; (case ho => rfl); (case hg => rfl); (case hn => rfl); (case hr => first | (go_simp; done) | (go_simp; rfl)); intro w24 hw; have hg : w21.grownBy w24 (some go20) := (by rw [hw]; exact HP23.2); have hp_ : Kd.R Kd.bool 4 w24 w.heap.size (fun _ => True) (.slice (some ⟨go20, 0, none⟩) y217.length co20) y220 := (by rw [hw, Ny220.out]; exact HP23.1); clear HP23; replace HO219 := Aside0.mk (hp_); replace HB := Aside0.mk ((by rw [hw]; exact below_set (HB.out) GB20.out : Below w.heap.size w w24)); clear hg hw hp_) | ((with_reducible refine gate_dst (N := 35) rfl ?_); (try (refine gate_guard (by rfl) ?_; dsimp only)); refine Kd.R_lit (Kd.int .i64) _ 3 ?hg (N := 35) ?hd (xs := ([0] : List Int)) (inner := [.int .i64 0]) (ok := fun _ => True) (okp := fun _ => True) ?hr ?hp (fun _ hk => hk) trivial (Below.refl _ _) (Nat.le_refl _) (by simp) ?_; (case hd => rfl); (case hg => rfl); (case hr => first | (go_simp; done) | (go_simp; rfl)); (case hp => exact (Reps.one (show Kd.M (Kd.int .i64) _ _ _ 0 [.int .i64 0] from rfl) (Reps.none _ _))); intro v222 w25 ho26 hb hg_ hnew_; clear hg_ hnew_; (first | rw [← Ny221.out] at ho26 | (simp only [Int.reduceToNat] at ho26; rw [← Ny221.out] at ho26)); replace HO219 := rb_ HO219 hb; have HO223 := rl_ w ho26; replace HB := b1_ hb; clear hb ho26))
        go_loopg [6, 7] kj2 (fun kq v6 v7 w' => ∃ (x5_2 : List Bool) (x6_2 : List Int) (x7_2 : Int), v7 = .int .i64 x7_2 ∧ Aside0 (impl_IsTransitive.l0 kq l0 l1 x5_2 x6_2 x7_2 = some r) ∧ Aside0 (kq ≤ kj2) ∧ Aside0 (Kd.R Kd.bool 4 w' w.heap.size (fun _ => True) (.slice (some ⟨go20, 0, none⟩) y217.length co20) x5_2) ∧ Aside0 (Kd.R (Kd.int .i64) 3 w' w.heap.size (fun _ => True) v6 x6_2) ∧ Aside0 (Below w.heap.size w w'))
        case atStart => exact ⟨(y220), (y221), (0), qc_, H', ⟨Nat.le_refl _⟩, ⟨(rr_ HO219)⟩, ⟨(rr_ HO223)⟩, ⟨hB_⟩⟩
        case round =>
          clear H'
          obtain ⟨x5_2, x6_2, x7_2, rfl, HA, HK2, HO_5, HO_6, HB⟩ := hrel
          have hl5_2 := (Kd.R_reads' HO_5.out).1
          rw [hl5_2] at HO_5
          (try simp only [hl5_2])
          (try simp only [hl5_2] at HO_6)
          cases gk with
          | zero => exact absurd HA.out (by simp [impl_IsTransitive.l0])
          | succ k2 =>
            have H := HA.out
            clear HA
            simp only [impl_IsTransitive.l0] at H
            by_cases c27 : x7_2 < (x6_2.length : Int)
            · rw [if_pos c27] at H
              have c27b0 := decide_eq_true c27
              clear c27
              have c28 := cp_ H
              replace H := ca_ H
              have c28b0 := decide_eq_true c28
              clear c28
              have c29 := cp_ H
              replace H := ca_ H
              have c29b0 := decide_eq_true c29
              clear c29
              have c30 := cp_ H
              replace H := ca_ H
              have c30b0 := decide_eq_true c30
              clear c30
              have c31 := cp_ H
              replace H := ca_ H
              have c31b0 := decide_eq_true c31
              clear c31
              obtain ⟨y228, hy228⟩ : ∃ y_ : List Int, y_ = (([rd l0 (rd x6_2 x7_2), rd l1 (rd x6_2 x7_2)] : List Int)) := ⟨_, rfl⟩
              replace H : (impl_IsTransitive.l1 k2 l0 l1 x5_2 x6_2 x7_2 y228 (y228.length : Int) 0) = some r := by first | (rw [hy228]; exact H) | exact H
              have Ny228 := Aside0.mk hy228
              clear hy228
              have H' := Aside0.mk H
              clear H
              obtain ⟨Ao32, co32, eo32⟩ := Kd.R_slice HO_6.out
              subst eo32
              try go_wp2
              replace HO_5 := Aside0.mk (Kd.R_drew HO_5.out)
              replace HO_6 := Aside0.mk (Kd.R_drew HO_6.out)
              replace HB := Aside0.mk (below_drew1 HB.out)
              have p224 : 0 ≤ (x7_2 : Int) := of_decide_eq_true qe_
              have q224 : x7_2 < (x6_2.length : Int) := of_decide_eq_true qe_
              obtain ⟨ad224, e224, hx224_0⟩ := Kd.at_int (Kd.R_reads' HO_6.out).2.2 x7_2 p224 q224
              cases e224
              replace p224 := eq_true p224
              replace q224 := eq_true q224
              have p225 : 0 ≤ ((rd x6_2 x7_2) : Int) := of_decide_eq_true qe_
              have q225 : (rd x6_2 x7_2) < (l0.length : Int) := of_decide_eq_true qe_
              obtain ⟨ad225, e225, hx225_0⟩ := Kd.at_int HR0.out (rd x6_2 x7_2) p225 q225
              have hw225_0 := hx225_0
              cases e225
              replace hx225_0 := (HB.out.cell (World.block_lt_of_cell? w _ hx225_0)).trans hx225_0
              replace p225 := eq_true p225
              replace q225 := eq_true q225
              have p226 : 0 ≤ (x7_2 : Int) := of_decide_eq_true qe_
              have q226 : x7_2 < (x6_2.length : Int) := of_decide_eq_true qe_
              obtain ⟨ad226, e226, hx226_0⟩ := Kd.at_int (Kd.R_reads' HO_6.out).2.2 x7_2 p226 q226
              obtain rfl : ad224 = ad226 := (by injection e226)
              replace p226 := eq_true p226
              replace q226 := eq_true q226
              have p227 : 0 ≤ ((rd x6_2 x7_2) : Int) := of_decide_eq_true qe_
              have q227 : (rd x6_2 x7_2) < (l1.length : Int) := of_decide_eq_true qe_
              obtain ⟨ad227, e227, hx227_0⟩ := Kd.at_int HR1.out (rd x6_2 x7_2) p227 q227
              have hw227_0 := hx227_0
              cases e227
              replace hx227_0 := (HB.out.cell (World.block_lt_of_cell? w _ hx227_0)).trans hx227_0
              replace p227 := eq_true p227
              replace q227 := eq_true q227
              refine start_ (n := 17) (S := fun w' => w'.cell? (ad224.add (x7_2).toNat) = some (.int .i64 (rd x6_2 x7_2)) ∧ w'.cell? (ad225.add ((rd x6_2 x7_2)).toNat) = some (.int .i64 (rd l0 (rd x6_2 x7_2))) ∧ w'.cell? (ad224.add (x7_2).toNat) = some (.int .i64 (rd x6_2 x7_2)) ∧ w'.cell? (ad227.add ((rd x6_2 x7_2)).toNat) = some (.int .i64 (rd l1 (rd x6_2 x7_2)))) (ds := []) (bl_ 17 0) (by kernel_rfl) rfl (by kernel_rfl) ⟨hx224_0, ((HB.out.cell (World.block_lt_of_cell? w _ hw225_0)).trans hw225_0), hx226_0, ((HB.out.cell (World.block_lt_of_cell? w _ hw227_0)).trans hw227_0)⟩ (fun hHeld => ?_); refine with_tabW impl_IsTransitive.tab9 impl_IsTransitive.bits9 (fun HT_ HW_ => ?_)
              generalize wr.drew = w33 at HO_5 HO_6 HB hx224_0 hx225_0 hx226_0 hx227_0 hHeld ⊢
              refine pu_ 0 (some 42) (bl_ 17 1) HT_ ?_
              refine pu_ 1 (some 43) (bl_ 17 3) HT_ ?_
              refine pu_ 2 (some 44) (bl_ 17 7) HT_ ?_
              refine pu_ 3 (some 45) (bl_ 17 15) HT_ ?_
              refine pu_ 7 (some 49) (bl_ 17 143) HT_ ?_
              refine pu_ 8 (some 50) (bl_ 17 399) HT_ ?_
              refine pu_ 9 (some 51) (bl_ 17 911) HT_ ?_
              refine pu_ 10 (some 52) (bl_ 17 1935) HT_ ?_
              refine pu_ 16 (some 58) (bl_ 17 67471) HT_ ?_
              refine ta_ 4 (some 46) (bl_ 17 67487) HT_ HW_ hHeld ?_
              refine pu_ 5 (some 47) (bl_ 17 67519) HT_ ?_
              refine ta_ 6 (some 48) (bl_ 17 67583) HT_ HW_ hHeld ?_
              refine ta_ 11 (some 53) (bl_ 17 69631) HT_ HW_ hHeld ?_
              refine pu_ 12 (some 54) (bl_ 17 73727) HT_ ?_
              refine ta_ 13 (some 55) (bl_ 17 81919) HT_ HW_ hHeld ?_
              refine on_ 14 (some 56) (bl_ 17 98303) HT_ (fun K hK => ?_)
              refine Kd.R_lit_step (Kd.int .i64) _ 3 ?hg (N := 56) ?hd (xs := ([rd l0 (rd x6_2 x7_2), rd l1 (rd x6_2 x7_2)] : List Int)) (inner := [.int .i64 (rd l0 (rd x6_2 x7_2)), .int .i64 (rd l1 (rd x6_2 x7_2))]) (ok := fun _ => True) (okp := fun _ => True) ?hr ?hp (fun _ hk => hk) trivial (Below.refl _ _) (Nat.le_refl _) (by simp) ?_; (case hd => rfl); (case hg => rfl); (case hr => first | (go_simp; done) | (go_simp; rfl)); (case hp => exact (Reps.one (show Kd.M (Kd.int .i64) _ _ _ (rd l0 (rd x6_2 x7_2)) [.int .i64 (rd l0 (rd x6_2 x7_2))] from rfl) (Reps.one (show Kd.M (Kd.int .i64) _ _ _ (rd l1 (rd x6_2 x7_2)) [.int .i64 (rd l1 (rd x6_2 x7_2))] from rfl) (Reps.none _ _))))
              intro v229 w34 ho35 hb hg_ hnew_
              have HS0_ := (hb.cell (World.block_lt_of_cell? _ _ (hHeld.1))).trans (hHeld.1)
              have HS2_ := (hb.cell (World.block_lt_of_cell? _ _ (hHeld.2.2.1))).trans (hHeld.2.2.1)
              clear hg_ hnew_
              (first | rw [← Ny228.out] at ho35 | (simp only [Int.reduceToNat] at ho35; rw [← Ny228.out] at ho35))
              replace HO_5 := rb_ HO_5 hb
              have HO230 := Aside0.mk (Kd.R_lower (Kd.R_new' ho35 (Kd.R_lt (rr_ HO_6))) (below_size hB_))
              replace HO_6 := Aside0.mk (Kd.R_elder' (rr_ HO_6) (Kd.R_base ho35) hb)
              replace HB := b1_ hb
              clear hb ho35
              obtain ⟨Ao36, co36, eo36⟩ := Kd.R_slice HO230.out
              (first | subst eo36 | (injection eo36 with f1_ f2_ f3_; have f4_ := f1_.symm; have f5_ := f3_.symm; clear f1_ f2_ f3_; subst f4_; subst f5_))
              refine hK.out _ _ ⟨HS0_, ((HB.out.cell (World.block_lt_of_cell? w _ hw225_0)).trans hw225_0), HS2_, ((HB.out.cell (World.block_lt_of_cell? w _ hw227_0)).trans hw227_0)⟩ (fun hHeld => ?_)
              clear hK K
              refine no_ (some 56) ?_
              refine pu_ 15 (some 57) (bl_ 17 131071) HT_ ?_
              refine done_ (done_of HT_.out (by kernel_rfl)) ?_
              try go_wp2
              go_loopg [6, 58] k2 (fun kq v6 v58 w' => ∃ (x5_3 : List Bool) (x6_3 : List Int) (x58_3 : Int), v58 = .int .i64 x58_3 ∧ Aside0 (impl_IsTransitive.l1 kq l0 l1 x5_3 x6_3 x7_2 y228 (y228.length : Int) x58_3 = some r) ∧ Aside0 (kq ≤ k2) ∧ Aside0 (Kd.R Kd.bool 4 w' w.heap.size (fun _ => True) (.slice (some ⟨go20, 0, none⟩) x5_2.length co20) x5_3) ∧ Aside0 (Kd.R (Kd.int .i64) 3 w' w.heap.size (fun k_ => some k_ ≠ ((.slice Ao36 y228.length co36) : Value).ownBlock) v6 x6_3) ∧ Aside0 (Kd.R (Kd.int .i64) 3 w' w.heap.size (fun k_ => some k_ ≠ (v6 : Value).ownBlock) (.slice Ao36 y228.length co36) y228) ∧ Aside0 (Below w.heap.size w w'))
              case atStart => exact ⟨(x5_2), (x6_2), (0), qc_, H', ⟨Nat.le_refl _⟩, ⟨by (try simp only [hl5_2]); (with_reducible repeat (first | apply Kd.R_alloc | apply Kd.R_drewN | apply Kd.R_drew)); exact HO_5.out⟩, ⟨by (try simp only [hl5_2]); (with_reducible repeat (first | apply Kd.R_alloc | apply Kd.R_drewN | apply Kd.R_drew)); exact Kd.R_mono HO_6.out (fun _ hk => hk.2)⟩, ⟨by (try simp only [hl5_2]); (with_reducible repeat (first | apply Kd.R_alloc | apply Kd.R_drewN | apply Kd.R_drew)); exact Kd.R_mono HO230.out (fun _ hk => hk.2)⟩, ⟨hB_⟩⟩
              case round =>
                clear H'
                obtain ⟨x5_3, x6_3, x58_3, rfl, HA, HK3, HO_5, HO_6, HO_56, HB⟩ := hrel
                have hl5_3 := (Kd.R_reads' HO_5.out).1
                rw [hl5_3] at HO_5
                (try simp only [hl5_3])
                (try simp only [hl5_3] at HO_6)
                (try simp only [hl5_3] at HO_56)
                cases gk with
                | zero => exact absurd HA.out (by simp [impl_IsTransitive.l1])
                | succ k3 =>
                  have H := HA.out
                  clear HA
                  simp only [impl_IsTransitive.l1] at H
                  by_cases c37 : x58_3 < (y228.length : Int)
                  · rw [if_pos c37] at H
                    have c37b0 := decide_eq_true c37
                    clear c37
                    have c38 := cp_ H
                    replace H := ca_ H
                    have c38b0 := decide_eq_true c38
                    clear c38
                    have c39 := cp_ H
                    replace H := ca_ H
                    have c39b0 := decide_eq_true c39
                    clear c39
                    have c40 := cp_ H
                    replace H := ca_ H
                    have c40b0 := decide_eq_true c40
                    clear c40
                    have c41 := cp_ H
                    replace H := ca_ H
                    have c41b0 := decide_eq_true c41
                    clear c41
                    obtain ⟨bq42, hbq42⟩ : ∃ b_ : Bool, b_ = (rdOf false x5_3 (rd y228 x58_3)) := ⟨_, rfl⟩
                    replace H : (if (bq42 = true) then (impl_IsTransitive.l1 k3 l0 l1 x5_3 x6_3 x7_2 y228 (y228.length : Int) (wrap64 (x58_3 + 1))) else (if x6_3.length < 17592186044416 then (impl_IsTransitive.l1 k3 l0 l1 (x5_3.set ((rd y228 x58_3) : Int).toNat true) (x6_3 ++ [rd y228 x58_3]) x7_2 y228 (y228.length : Int) (wrap64 (x58_3 + 1))) else (none))) = some r := by rw [← hbq42] at H; exact H
                    have Nbq42 := Aside0.mk hbq42
                    clear hbq42
                    by_cases c43 : (bq42 = true)
                    · subst c43
                      rw [if_pos rfl] at H
                      have H' := Aside0.mk H
                      clear H
                      have p231 : 0 ≤ (x58_3 : Int) := of_decide_eq_true qe_
                      have q231 : x58_3 < (y228.length : Int) := of_decide_eq_true qe_
                      obtain ⟨ad231, e231, hx231_0⟩ := Kd.at_int (Kd.R_reads' HO_56.out).2.2 x58_3 p231 q231
                      cases e231
                      replace p231 := eq_true p231
                      replace q231 := eq_true q231
                      have p232 : 0 ≤ ((rd y228 x58_3) : Int) := of_decide_eq_true qe_
                      have q232 : (rd y228 x58_3) < (x5_3.length : Int) := of_decide_eq_true qe_
                      obtain ⟨ad232, e232, hx232_0⟩ := Kd.at_bool (Kd.R_reads' HO_5.out).2.2 (rd y228 x58_3) p232 q232
                      (try rw [← Nbq42.out] at hx232_0)
                      obtain rfl : (⟨go20, 0, none⟩ : Addr) = ad232 := (by injection e232)
                      (first | simp only [add_plain] at hx232_0 | simp only [add_at] at hx232_0 | simp only [Addr.add, Nat.zero_add] at hx232_0 | skip)
                      replace p232 := eq_true p232
                      replace q232 := eq_true q232
                      go_wp2
                      (try simp only [← hl5_3])
                      go_roundg k3
                      case measure => have := HJ2.out; have := HK2.out; have := HK3.out; omega
                      case rel => exact ⟨(x5_3), (x6_3), (wrap64 (x58_3 + 1)), qc_, H', ⟨by have := HJ2.out; have := HK2.out; have := HK3.out; omega⟩, ⟨by (try simp only [hl5_2]); (try simp only [hl5_3]); (with_reducible repeat (first | apply Kd.R_alloc | apply Kd.R_drewN | apply Kd.R_drew)); exact HO_5.out⟩, ⟨by (try simp only [hl5_2]); (try simp only [hl5_3]); (with_reducible repeat (first | apply Kd.R_alloc | apply Kd.R_drewN | apply Kd.R_drew)); exact HO_6.out⟩, ⟨by (try simp only [hl5_2]); (try simp only [hl5_3]); (with_reducible repeat (first | apply Kd.R_alloc | apply Kd.R_drewN | apply Kd.R_drew)); exact HO_56.out⟩, ⟨hB_⟩⟩
                    · replace c43 := Bool.eq_false_iff.mpr c43
                      subst c43
                      have H1 : (if x6_3.length < 17592186044416 then (impl_IsTransitive.l1 k3 l0 l1 (x5_3.set ((rd y228 x58_3) : Int).toNat true) (x6_3 ++ [rd y228 x58_3]) x7_2 y228 (y228.length : Int) (wrap64 (x58_3 + 1))) else (none)) = some r := by rw [if_neg (show ¬ (false = true) by decide)] at H; exact H
                      clear H
                      have H := H1
                      clear H1
                      obtain ⟨y233, hy233⟩ : ∃ y_ : List Bool, y_ = (x5_3.set ((rd y228 x58_3) : Int).toNat true) := ⟨_, rfl⟩
                      replace H : (if x6_3.length < 17592186044416 then (impl_IsTransitive.l1 k3 l0 l1 y233 (x6_3 ++ [rd y228 x58_3]) x7_2 y228 (y228.length : Int) (wrap64 (x58_3 + 1))) else (none)) = some r := by first | (rw [hy233]; exact H) | exact H
                      have Ny233 := Aside0.mk hy233
                      clear hy233
                      have c45 := cp_ H
                      replace H := ca_ H
                      have LMc45 := Aside0.mk c45
                      clear c45
                      obtain ⟨y234, hy234⟩ : ∃ y_ : List Int, y_ = (x6_3 ++ [rd y228 x58_3]) := ⟨_, rfl⟩
                      replace H : (impl_IsTransitive.l1 k3 l0 l1 y233 y234 x7_2 y228 (y228.length : Int) (wrap64 (x58_3 + 1))) = some r := by first | (rw [hy234]; exact H) | exact H
                      have Ny234 := Aside0.mk hy234
                      clear hy234
                      have H' := Aside0.mk H
                      clear H
                      have p231 : 0 ≤ (x58_3 : Int) := of_decide_eq_true qe_
                      have q231 : x58_3 < (y228.length : Int) := of_decide_eq_true qe_
                      obtain ⟨ad231, e231, hx231_0⟩ := Kd.at_int (Kd.R_reads' HO_56.out).2.2 x58_3 p231 q231
                      cases e231
                      replace p231 := eq_true p231
                      replace q231 := eq_true q231
                      have p232 : 0 ≤ ((rd y228 x58_3) : Int) := of_decide_eq_true qe_
                      have q232 : (rd y228 x58_3) < (x5_3.length : Int) := of_decide_eq_true qe_
                      obtain ⟨ad232, e232, hx232_0⟩ := Kd.at_bool (Kd.R_reads' HO_5.out).2.2 (rd y228 x58_3) p232 q232
                      (try rw [← Nbq42.out] at hx232_0)
                      obtain rfl : (⟨go20, 0, none⟩ : Addr) = ad232 := (by injection e232)
                      (first | simp only [add_plain] at hx232_0 | simp only [add_at] at hx232_0 | simp only [Addr.add, Nat.zero_add] at hx232_0 | skip)
                      replace p232 := eq_true p232
                      replace q232 := eq_true q232
                      have p44 : 0 ≤ ((rd y228 x58_3) : Int) := of_decide_eq_true qe_
                      have q44 : ((rd y228 x58_3) : Int) < ((x5_3.length : Int) : Int) := of_decide_eq_true qe_
                      obtain ⟨hx44_0, hf44_0⟩ := Kd.R_celln false HO_5.out ((rd y228 x58_3) : Int) p44 q44
                      replace p44 := eq_true p44
                      replace q44 := eq_true q44
                      have HP46 := Kd.R_putg HO_5.out ((rd y228 x58_3) : Int) true
                      go_wp2_with (first | ((with_reducible refine gate_store (t := 4) (p := 69) rfl ?_); refine store_event (t := 4) (p := 69) (v := ?vo_w47) (w1 := (wr.setCell ⟨go20, ((rd y228 x58_3) : Int).toNat, none⟩ (.bool true))) ?hg ?ho ?hn ?hr ?_; (case ho => rfl); (case hg => rfl); (case hn => rfl); (case hr => first | (go_simp; done) | (go_simp; rfl)); intro w47 hw; have hg : wr.grownBy w47 (some go20) := (by rw [hw]; exact HP46.2); have hp_ : Kd.R Kd.bool 4 w47 w.heap.size (fun _ => True) (.slice (some ⟨go20, 0, none⟩) x5_3.length co20) y233 := (by rw [hw, Ny233.out]; exact HP46.1); clear HP46; replace HO_6 := Aside0.mk (Kd.R_over' (v := (.slice (some ⟨go20, 0, none⟩) x5_3.length co20)) (rr_ HO_6) (Kd.R_typed HO_5.out) (by decide) hg); replace HO_56 := Aside0.mk (Kd.R_over' (v := (.slice (some ⟨go20, 0, none⟩) x5_3.length co20)) (rr_ HO_56) (Kd.R_typed HO_5.out) (by decide) hg); replace HO_5 := Aside0.mk (hp_); replace HB := Aside0.mk ((by rw [hw]; exact below_set (HB.out) GB20.out : Below w.heap.size w w47)); clear hg hw hp_) | ((with_reducible refine gate_builtin (b := .append) (xs := #[.tmp 70, .tmp 72]) rfl ?_); (try (refine gate_guard (by rfl) ?_; dsimp only)); at_builtin; refine Kd.R_append (Kd.int .i64) (w0 := w) w.heap.size rfl (.tmp 70) (.tmp 72) 23 3 (.int .i64 0) 8 rfl Try.underlying23 info3 rfl (by decide) (by omega) u6 x6_3 (rd y228 x58_3) [.int .i64 (rd y228 x58_3)] (fun k_ => some k_ ≠ (.slice (some ad231) y228.length co36 : Value).ownBlock) (fun _ => False) rfl rfl ?aP (fun _ hk => hk.elim) ?aF ?aO ?aB ?aS ?aL ?_; (case aP => exact rfl); (case aB => exact hB_); (case aF => exact (fun k_ hk => Kd.fresh' (Kd.R_lt (rr_ HO_56)) k_ hk)); (case aO => exact (rr_ HO_6)); (case aS => exact (below_size hB_)); (case aL => have := LMc45.out; omega); intro v235 w48 ho hb hg hat; rw [← Ny234.out] at ho; replace HO_5 := Aside0.mk (Kd.R_over' (rr_ HO_5) (Kd.R_typed (rr_ HO_6)) (by decide) hg); replace HO_56 := Aside0.mk (Kd.R_after (ok := (fun _ => True)) (rw_ (Kd.R_mono HO_56.out (fun _ hk => ⟨trivial, hk⟩))) hg hat); replace HB := Aside0.mk hb; have HO236 := Aside0.mk ho; clear HO_6; clear ho hb hg hat))
                      (try simp only [← hl5_3])
                      go_roundg k3
                      case measure => have := HJ2.out; have := HK2.out; have := HK3.out; omega
                      case rel => exact ⟨(y233), (y234), (wrap64 (x58_3 + 1)), qc_, H', ⟨by have := HJ2.out; have := HK2.out; have := HK3.out; omega⟩, ⟨by (try simp only [hl5_2]); (try simp only [hl5_3]); (with_reducible repeat (first | apply Kd.R_alloc | apply Kd.R_drewN | apply Kd.R_drew)); exact HO_5.out⟩, ⟨by (try simp only [hl5_2]); (try simp only [hl5_3]); (with_reducible repeat (first | apply Kd.R_alloc | apply Kd.R_drewN | apply Kd.R_drew)); exact HO236.out⟩, ⟨by (try simp only [hl5_2]); (try simp only [hl5_3]); (with_reducible repeat (first | apply Kd.R_alloc | apply Kd.R_drewN | apply Kd.R_drew)); exact Kd.R_mono HO_56.out (fun _ hk => hk.2)⟩, ⟨hB_⟩⟩
                  · rw [if_neg c37] at H
                    have c37b0 := decide_eq_false c37
                    clear c37
                    have H' := Aside0.mk H
                    clear H
                    go_wp2
                    (try simp only [← hl5_2, ← hl5_3])
                    go_roundg k3
                    case measure => have := HJ2.out; have := HK2.out; have := HK3.out; omega
                    case rel => exact ⟨(x5_3), (x6_3), (wrap64 (x7_2 + 1)), qc_, H', ⟨by have := HJ2.out; have := HK2.out; have := HK3.out; omega⟩, ⟨by (try simp only [hl5_2]); (try simp only [hl5_3]); (with_reducible repeat (first | apply Kd.R_alloc | apply Kd.R_drewN | apply Kd.R_drew)); exact HO_5.out⟩, ⟨by (try simp only [hl5_2]); (try simp only [hl5_3]); (with_reducible repeat (first | apply Kd.R_alloc | apply Kd.R_drewN | apply Kd.R_drew)); exact Kd.R_mono HO_6.out (fun _ hk => trivial)⟩, ⟨hB_⟩⟩
            · rw [if_neg c27] at H
              have c27b0 := decide_eq_false c27
              clear c27
              obtain rfl := Option.some.inj H
              obtain ⟨Ao49, co49, eo49⟩ := Kd.R_slice HO_6.out
              subst eo49
              go_wp2
              go_ret
              exact ⟨qb_, hB_⟩
end Go.Proofs.Ytcggfjpnfodbaaa.A
end
section
namespace Go.Proofs.Ytcggfjpnfodbaaa.A
open Go.RowKit Go.Proofs.YtcggfjpnfodbaaaW.PrintWords Go.Proofs.YtcggfjpnfodbaaaW.PrintLast Go.Proofs.YtcggfjpnfodbaaaW.PrintMore
attribute [local go_sem] max2_int min2_int max_two min_two max_three min_three max_four min_four
set_option linter.unusedVariables false
set_option linter.unusedSimpArgs false
def impl_SurfaceOk.f (k : Nat) (l0_0 : List Int) (l0_1 : List Int) : Option (Bool) := (impl_IsTransitive.f k l0_0 l0_1).bind fun t238 => (some t238)
theorem impl_SurfaceOk.mono : ∀ a0 a1 k, LeO (impl_SurfaceOk.f k a0 a1) (impl_SurfaceOk.f (k + 1) a0 a1) := by
  intro a0 a1 k
  unfold impl_SurfaceOk.f
  repeat' first|exact impl_IsTransitive.mono _ _ _|exact lo_|refine LeO.ite ?_ ?_|refine LeO.bind ?_ (fun _ => ?_)
set_option maxHeartbeats 8000000 in
set_option maxRecDepth 100000 in
theorem impl_SurfaceOk.calls (k : Nat) (A0_0 : Option Addr) (c0_0 : Nat) (l0_0 : List Int) (A0_1 : Option Addr) (c0_1 : Nat) (l0_1 : List Int) (r : Bool) (w : World) (hr0_0 : Kd.C (Kd.int .i64) w A0_0 l0_0.length l0_0) (hc0_0 : l0_0.length ≤ c0_0) (hr0_1 : Kd.C (Kd.int .i64) w A0_1 l0_1.length l0_1) (hc0_1 : l0_1.length ≤ c0_1) (h : impl_SurfaceOk.f k l0_0 l0_1 = some r) :
    Calls Try.prog 66 #[.agg #[.slice A0_0 l0_0.length c0_0, .slice A0_1 l0_1.length c0_1]] w fun e w' => e = .returned (.bool r) ∧ Below w.heap.size w w' := by
  have hu25 := Try.underlying25
  have HR0_0 := Aside0.mk hr0_0
  have HC0_0 := Aside0.mk hc0_0
  clear hr0_0 hc0_0
  have HR0_1 := Aside0.mk hr0_1
  have HC0_1 := Aside0.mk hc0_1
  clear hr0_1 hc0_1
  have HB := Aside0.mk (Below.refl w.heap.size w)
  have H := h
  unfold impl_SurfaceOk.f at H
  clear h
  obtain ⟨t238, A2, H⟩ := bi_ H
  obtain rfl := Option.some.inj H
  go_enter Try.func66, Try.ntmps66
  go_wp2_with (first | ((with_reducible refine gate_dst (N := 1) rfl ?_); refine bx_ 1 #[.slice A0_0 l0_0.length c0_0, .slice A0_1 l0_1.length c0_1] 25 ?_; intro gb237 hg w3 hbox hb; have BK237 := Aside0.mk hbox; have GW237 := gw_ w hg; have GE237 := GW237; replace HB := b1_ hb; clear hb hbox hg; obtain ⟨hcz4_0, hcz4_1, hfz4_0, hfz4_1⟩ := c2_ BK237) | ((with_reducible refine gate_callee (f := 106) rfl ?_); refine gL_ (some 7) Try.func106 #[.slice A0_0 l0_0.length c0_0, .slice A0_1 l0_1.length c0_1] rfl qa_ ?_; (with_reducible refine (impl_IsTransitive.calls k _ _ l0_0 _ _ l0_1 t238 _ (cb_ HR0_0) HC0_0.out (cb_ HR0_1) HC0_1.out A2.out).mono ?_); rintro e w5 ⟨rfl, hb⟩; refine ⟨_, rfl, ?_⟩; replace BK237 := bb_ BK237 hb; replace HB := b1_ hb; clear hb))
  go_ret
  exact ⟨qb_, hB_⟩
end Go.Proofs.Ytcggfjpnfodbaaa.A
end
section
namespace Go.Proofs.Ytcggfjpnfodbaaa.A
open Go.RowKit Go.Proofs.YtcggfjpnfodbaaaW.PrintWords Go.Proofs.YtcggfjpnfodbaaaW.PrintLast Go.Proofs.YtcggfjpnfodbaaaW.PrintMore
attribute [local go_sem] max2_int min2_int max_two min_two max_three min_three max_four min_four
set_option linter.unusedVariables false
set_option linter.unusedSimpArgs false
def impl_CountSquares.f (k : Nat) (l0_0 : List Int) (l0_1 : List Int) : Option (Int) := (impl_SurfaceOk.f k l0_0 l0_1).bind fun t240 => (if t240 = true then (some (l0_0.length : Int)) else (some 0))
theorem impl_CountSquares.mono : ∀ a0 a1 k, LeO (impl_CountSquares.f k a0 a1) (impl_CountSquares.f (k + 1) a0 a1) := by
  intro a0 a1 k
  unfold impl_CountSquares.f
  repeat' first|exact impl_SurfaceOk.mono _ _ _|exact lo_|refine LeO.ite ?_ ?_|refine LeO.bind ?_ (fun _ => ?_)
set_option maxHeartbeats 8000000 in
set_option maxRecDepth 100000 in
theorem impl_CountSquares.calls (k : Nat) (A0_0 : Option Addr) (c0_0 : Nat) (l0_0 : List Int) (A0_1 : Option Addr) (c0_1 : Nat) (l0_1 : List Int) (r : Int) (w : World) (hr0_0 : Kd.C (Kd.int .i64) w A0_0 l0_0.length l0_0) (hc0_0 : l0_0.length ≤ c0_0) (hr0_1 : Kd.C (Kd.int .i64) w A0_1 l0_1.length l0_1) (hc0_1 : l0_1.length ≤ c0_1) (h : impl_CountSquares.f k l0_0 l0_1 = some r) :
    Calls Try.prog 112 #[.agg #[.slice A0_0 l0_0.length c0_0, .slice A0_1 l0_1.length c0_1]] w fun e w' => e = .returned (.int .i64 r) ∧ Below w.heap.size w w' := by
  have hu25 := Try.underlying25
  have HR0_0 := Aside0.mk hr0_0
  have HC0_0 := Aside0.mk hc0_0
  clear hr0_0 hc0_0
  have HR0_1 := Aside0.mk hr0_1
  have HC0_1 := Aside0.mk hc0_1
  clear hr0_1 hc0_1
  have HB := Aside0.mk (Below.refl w.heap.size w)
  have H := h
  unfold impl_CountSquares.f at H
  clear h
  obtain ⟨t240, A2, H⟩ := bi_ H
  by_cases c3 : t240 = true
  · subst c3
    rw [if_pos rfl] at H
    obtain rfl := Option.some.inj H
    go_enter Try.func112, Try.ntmps112
    go_wp2_with (first | ((with_reducible refine gate_dst (N := 1) rfl ?_); refine bx_ 1 #[.slice A0_0 l0_0.length c0_0, .slice A0_1 l0_1.length c0_1] 25 ?_; intro gb239 hg w4 hbox hb; have BK239 := Aside0.mk hbox; have GW239 := gw_ w hg; have GE239 := GW239; replace HB := b1_ hb; clear hb hbox hg; obtain ⟨hcz5_0, hcz5_1, hfz5_0, hfz5_1⟩ := c2_ BK239) | ((with_reducible refine gate_callee (f := 66) rfl ?_); refine gL_ (some 4) Try.func66 #[.agg #[.slice A0_0 l0_0.length c0_0, .slice A0_1 l0_1.length c0_1]] rfl qa_ ?_; (with_reducible refine (impl_SurfaceOk.calls k _ _ l0_0 _ _ l0_1 true _ (cb_ HR0_0) HC0_0.out (cb_ HR0_1) HC0_1.out A2.out).mono ?_); rintro e w6 ⟨rfl, hb⟩; refine ⟨_, rfl, ?_⟩; replace BK239 := bb_ BK239 hb; replace HB := b1_ hb; clear hb; obtain ⟨hcz7_0, hcz7_1, hfz7_0, hfz7_1⟩ := c2_ BK239))
    go_ret
    exact ⟨qb_, hB_⟩
  · replace c3 := Bool.eq_false_iff.mpr c3
    subst c3
    have H1 : (some 0) = some r := by rw [if_neg (show ¬ (false = true) by decide)] at H; exact H
    clear H
    have H := H1
    clear H1
    obtain rfl := Option.some.inj H
    go_enter Try.func112, Try.ntmps112
    go_wp2_with (first | ((with_reducible refine gate_dst (N := 1) rfl ?_); refine bx_ 1 #[.slice A0_0 l0_0.length c0_0, .slice A0_1 l0_1.length c0_1] 25 ?_; intro gb239 hg w8 hbox hb; have BK239 := Aside0.mk hbox; have GW239 := gw_ w hg; have GE239 := GW239; replace HB := b1_ hb; clear hb hbox hg; obtain ⟨hcz9_0, hcz9_1, hfz9_0, hfz9_1⟩ := c2_ BK239) | ((with_reducible refine gate_callee (f := 66) rfl ?_); refine gL_ (some 4) Try.func66 #[.agg #[.slice A0_0 l0_0.length c0_0, .slice A0_1 l0_1.length c0_1]] rfl qa_ ?_; (with_reducible refine (impl_SurfaceOk.calls k _ _ l0_0 _ _ l0_1 false _ (cb_ HR0_0) HC0_0.out (cb_ HR0_1) HC0_1.out A2.out).mono ?_); rintro e w10 ⟨rfl, hb⟩; refine ⟨_, rfl, ?_⟩; replace BK239 := bb_ BK239 hb; replace HB := b1_ hb; clear hb))
    go_ret
    exact ⟨qb_, hB_⟩
end Go.Proofs.Ytcggfjpnfodbaaa.A
end
section
namespace Go.Proofs.Ytcggfjpnfodbaaa.A
open Go.RowKit Go.Proofs.YtcggfjpnfodbaaaW.PrintWords Go.Proofs.YtcggfjpnfodbaaaW.PrintLast Go.Proofs.YtcggfjpnfodbaaaW.PrintMore
attribute [local go_sem] max2_int min2_int max_two min_two max_three min_three max_four min_four
set_option linter.unusedVariables false
set_option linter.unusedSimpArgs false
mutual
def impl_RenamePerm.j0 : Nat → List Int → List Int → Bool → Option (List Int)
  | 0, _, _, _ => none
  | k + 1, x0, x1, x22 => if x22 = true then (some ([] : List Int)) else (if 0 ≤ (x0.length : Int) then (if ((x0.length : Int) : Int).toNat ≤ 35184372088832 then (impl_RenamePerm.l0 k x1 (List.replicate ((x0.length : Int) : Int).toNat 0) x0 (x0.length : Int) 0) else (none)) else (none))
def impl_RenamePerm.l0 : Nat → List Int → List Int → List Int → Int → Int → Option (List Int)
  | 0, _, _, _, _, _ => none
  | k + 1, x1, x5, x26, x27, x28 => if x28 < x27 then (if 0 ≤ x28 then (if x28 < (x26.length : Int) then (if x28 < (x1.length : Int) then (if 0 ≤ (rd x26 x28) then (if (rd x26 x28) < (x1.length : Int) then (if 0 ≤ (rd x1 x28) then (if (rd x1 x28) < (x5.length : Int) then (impl_RenamePerm.l0 k x1 (x5.set ((rd x1 x28) : Int).toNat (rd x1 (rd x26 x28))) x26 x27 (wrap64 (x28 + 1))) else (none)) else (none)) else (none)) else (none)) else (none)) else (none)) else (none)) else (some x5)
end
def impl_RenamePerm.f (k : Nat) (l0 : List Int) (l1 : List Int) : Option (List Int) := (impl_PermOk.f k l0).bind fun t241 => (if t241 = true then ((impl_PermOk.f k l1).bind fun t242 => (if t242 = true then (impl_RenamePerm.j0 k l0 l1 ((l0.length : Int) != (l1.length : Int))) else (impl_RenamePerm.j0 k l0 l1 true))) else (impl_RenamePerm.j0 k l0 l1 true))
theorem impl_RenamePerm.mono_l : ∀ k, (∀ y0 y1 y2, LeO (impl_RenamePerm.j0 k y0 y1 y2) (impl_RenamePerm.j0 (k + 1) y0 y1 y2)) ∧ (∀ y0 y1 y2 y3 y4, LeO (impl_RenamePerm.l0 k y0 y1 y2 y3 y4) (impl_RenamePerm.l0 (k + 1) y0 y1 y2 y3 y4))
  | 0 => ⟨fun _ _ _ r h => by simp [impl_RenamePerm.j0] at h, fun _ _ _ _ _ r h => by simp [impl_RenamePerm.l0] at h⟩
  | k + 1 => by
    obtain ⟨ih0, ih1⟩ := impl_RenamePerm.mono_l k
    refine ⟨?_, ?_⟩
    · intro y0 y1 y2
      unfold impl_RenamePerm.j0
      repeat' first|exact ih0 _ _ _|exact ih1 _ _ _ _ _|exact impl_PermOk.mono _ _|exact lo_|refine LeO.ite ?_ ?_|refine LeO.bind ?_ (fun _ => ?_)
    · intro y0 y1 y2 y3 y4
      unfold impl_RenamePerm.l0
      repeat' first|exact ih0 _ _ _|exact ih1 _ _ _ _ _|exact impl_PermOk.mono _ _|exact lo_|refine LeO.ite ?_ ?_|refine LeO.bind ?_ (fun _ => ?_)
theorem impl_RenamePerm.mono : ∀ a0 a1 k, LeO (impl_RenamePerm.f k a0 a1) (impl_RenamePerm.f (k + 1) a0 a1) := by
  intro a0 a1 k
  obtain ⟨ih0, ih1⟩ := impl_RenamePerm.mono_l k
  unfold impl_RenamePerm.f
  repeat' first|exact ih0 _ _ _|exact ih1 _ _ _ _ _|exact impl_PermOk.mono _ _|exact lo_|refine LeO.ite ?_ ?_|refine LeO.bind ?_ (fun _ => ?_)
def impl_RenamePerm.T7 : Bool × List (List Nat × List Nat) := (true, [([], []), ([], []), ([], []), ([1, 2], [1, 2]), ([3], [3]), ([], []), ([], []), ([5, 6], [5, 6]), ([7], [7]), ([0, 4, 0, 1, 2, 3, 4, 5, 6, 7, 8], [0, 4]), ([9, 8, 0, 1, 2, 3, 4, 5, 6, 7, 8], [8, 9])])
def impl_RenamePerm.B7 : List Nat := [0, 0, 0, 6, 14, 0, 0, 96, 224, 511, 1023]
theorem impl_RenamePerm.tab7 : rtab .any (opsOf Try.f144 7) = impl_RenamePerm.T7 := by kernel_rfl
theorem impl_RenamePerm.bits7 : waitsOk impl_RenamePerm.T7.2 impl_RenamePerm.B7 = true := by kernel_rfl
set_option maxHeartbeats 8000000 in
set_option maxRecDepth 100000 in
theorem impl_RenamePerm.calls (k : Nat) (A0 : Option Addr) (c0 : Nat) (l0 : List Int) (A1 : Option Addr) (c1 : Nat) (l1 : List Int) (r : List Int) (w : World) (hr0 : Kd.C (Kd.int .i64) w A0 l0.length l0) (hc0 : l0.length ≤ c0) (hr1 : Kd.C (Kd.int .i64) w A1 l1.length l1) (hc1 : l1.length ≤ c1) (h : impl_RenamePerm.f k l0 l1 = some r) :
    Calls Try.prog 144 #[.slice A0 l0.length c0, .slice A1 l1.length c1] w fun e w' => ∃ v0_ : Value, e = .returned (v0_) ∧ Kd.R (Kd.int .i64) 3 w' w.heap.size (fun _ => True) v0_ r ∧ Below w.heap.size w w' := by
  have HR0 := Aside0.mk hr0
  have HC0 := Aside0.mk hc0
  clear hr0 hc0
  have HR1 := Aside0.mk hr1
  have HC1 := Aside0.mk hc1
  clear hr1 hc1
  have HB := Aside0.mk (Below.refl w.heap.size w)
  have H := h
  unfold impl_RenamePerm.f at H
  clear h
  have HC3 := Aside0.mk H
  clear H
  go_enter Try.func144, Try.ntmps144
  go_upto_region 1 with (fail)
  go_cut [22] (fun v22 wc => ∃ (kq : Nat) (x22_2 : Bool), v22 = .bool x22_2 ∧ Aside0 (impl_RenamePerm.j0 kq l0 l1 x22_2 = some r) ∧ Aside0 (kq ≤ k) ∧ Aside0 (Below w.heap.size w wc))
  case first =>
    have H := HC3.out
    clear HC3
    obtain ⟨t241, A4, H⟩ := bi_ H
    by_cases c5 : t241 = true
    · subst c5
      rw [if_pos rfl] at H
      obtain ⟨t242, A6, H⟩ := bi_ H
      by_cases c7 : t242 = true
      · subst c7
        rw [if_pos rfl] at H
        have H' := Aside0.mk H
        clear H
        go_wp2_with (first | ((with_reducible refine gate_callee (f := 107) rfl ?_); refine gL_ (some 9) Try.func107 #[.slice A0 l0.length c0] rfl qa_ ?_; (with_reducible refine (impl_PermOk.calls k _ _ l0 true _ (cb_ HR0) HC0.out A4.out).mono ?_); rintro e w8 ⟨rfl, hb⟩; refine ⟨_, rfl, ?_⟩; replace HB := b1_ hb; clear hb) | (go_at_call 107; (with_reducible refine (impl_PermOk.calls k _ _ l1 true _ (cb_ HR1) HC1.out A6.out).mono ?_); rintro e w9 ⟨rfl, hb⟩; replace HB := b1_ hb; clear hb))
        go_meet
        case rel => exact ⟨_, (((l0.length : Int) != (l1.length : Int))), qc_, H', ⟨qd_⟩, ⟨hB_⟩⟩
      · replace c7 := Bool.eq_false_iff.mpr c7
        subst c7
        have H1 : (impl_RenamePerm.j0 k l0 l1 true) = some r := by rw [if_neg (show ¬ (false = true) by decide)] at H; exact H
        clear H
        have H := H1
        clear H1
        have H' := Aside0.mk H
        clear H
        go_wp2_with (first | ((with_reducible refine gate_callee (f := 107) rfl ?_); refine gL_ (some 9) Try.func107 #[.slice A0 l0.length c0] rfl qa_ ?_; (with_reducible refine (impl_PermOk.calls k _ _ l0 true _ (cb_ HR0) HC0.out A4.out).mono ?_); rintro e w10 ⟨rfl, hb⟩; refine ⟨_, rfl, ?_⟩; replace HB := b1_ hb; clear hb) | (go_at_call 107; (with_reducible refine (impl_PermOk.calls k _ _ l1 false _ (cb_ HR1) HC1.out A6.out).mono ?_); rintro e w11 ⟨rfl, hb⟩; replace HB := b1_ hb; clear hb))
        go_meet
        case rel => exact ⟨_, (true), qc_, H', ⟨qd_⟩, ⟨hB_⟩⟩
    · replace c5 := Bool.eq_false_iff.mpr c5
      subst c5
      have H1 : (impl_RenamePerm.j0 k l0 l1 true) = some r := by rw [if_neg (show ¬ (false = true) by decide)] at H; exact H
      clear H
      have H := H1
      clear H1
      have H' := Aside0.mk H
      clear H
      go_wp2_with (first | ((with_reducible refine gate_callee (f := 107) rfl ?_); refine gL_ (some 9) Try.func107 #[.slice A0 l0.length c0] rfl qa_ ?_; (with_reducible refine (impl_PermOk.calls k _ _ l0 false _ (cb_ HR0) HC0.out A4.out).mono ?_); rintro e w12 ⟨rfl, hb⟩; refine ⟨_, rfl, ?_⟩; replace HB := b1_ hb; clear hb))
      go_meet
      case rel => exact ⟨_, (true), qc_, H', ⟨qd_⟩, ⟨hB_⟩⟩
  case rest =>
    clear HC3
    obtain ⟨kq, x22_2, rfl, HA, HJ2, HB⟩ := hcut
    cases kq with
    | zero => exact absurd HA.out (by simp [impl_RenamePerm.j0])
    | succ kj2 =>
      have H := HA.out
      clear HA
      simp only [impl_RenamePerm.j0] at H
      by_cases c13 : x22_2 = true
      · subst c13
        rw [if_pos rfl] at H
        obtain rfl := Option.some.inj H
        go_wp2
        go_ret
        exact ⟨_, qb_, by first | exact Kd.R_nil _ _ _ _ _ | exact Kd.N_nil _ _ _ _ _ | exact Kd.V_nil _ _ _ _ _ | exact Kd.Q_nil _ _ _ _ _ | exact Kd.S_nil _ _ _ _ _, hB_⟩
      · replace c13 := Bool.eq_false_iff.mpr c13
        subst c13
        have H1 : (if 0 ≤ (l0.length : Int) then (if ((l0.length : Int) : Int).toNat ≤ 35184372088832 then (impl_RenamePerm.l0 kj2 l1 (List.replicate ((l0.length : Int) : Int).toNat 0) l0 (l0.length : Int) 0) else (none)) else (none)) = some r := by rw [if_neg (show ¬ (false = true) by decide)] at H; exact H
        clear H
        have H := H1
        clear H1
        have c14 := cp_ H
        replace H := ca_ H
        have c14b0 := eq_true c14
        have c14b1 := decide_eq_true c14
        clear c14
        have c15 := cp_ H
        replace H := ca_ H
        have c15b0 := eq_true c15
        have c15b1 := decide_eq_true c15
        clear c15
        obtain ⟨y243, hy243⟩ : ∃ y_ : List Int, y_ = (List.replicate ((l0.length : Int) : Int).toNat 0) := ⟨_, rfl⟩
        replace H : (impl_RenamePerm.l0 kj2 l1 y243 l0 (l0.length : Int) 0) = some r := by first | (rw [hy243]; exact H) | exact H
        have Ny243 := Aside0.mk hy243
        clear hy243
        have H' := Aside0.mk H
        clear H
        go_wp2_with (first | ((with_reducible refine gate_dst (N := 25) rfl ?_); (try (refine gate_guard (by rfl) ?_; dsimp only)); refine Kd.R_make (Kd.int .i64) _ 3 rfl (N := 25) rfl 23 _ _ rfl (l0.length : Int) rfl rfl Try.underlying23 (.int .i64 0) 8 info3 rfl (by decide) (by omega) 0 (ok := fun _ => True) (okp := fun _ => True) rfl (fun _ hk => hk) trivial (of_decide_eq_true qe_) (Nat.le_trans (Nat.mul_le_mul_right _ (of_decide_eq_true qe_ : (l0.length : Int).toNat ≤ 35184372088832)) (by omega)) (Below.refl _ _) (Nat.le_refl _) ?_; intro v244 w16 ho17 hb hg_ hnew_; clear hg_ hnew_; (first | rw [← Ny243.out] at ho17 | (simp only [Int.reduceToNat] at ho17; rw [← Ny243.out] at ho17)); have HO245 := rl_ w ho17; replace HB := b1_ hb; clear hb ho17))
        go_loopg [28] kj2 (fun kq v28 w' => ∃ (x5_2 : List Int) (x28_2 : Int), v28 = .int .i64 x28_2 ∧ Aside0 (impl_RenamePerm.l0 kq l1 x5_2 l0 (l0.length : Int) x28_2 = some r) ∧ Aside0 (kq ≤ kj2) ∧ Aside0 (Kd.R (Kd.int .i64) 3 w' w.heap.size (fun _ => True) v244 x5_2) ∧ Aside0 (Below w.heap.size w w'))
        case atStart => exact ⟨(y243), (0), qc_, H', ⟨Nat.le_refl _⟩, ⟨(rr_ HO245)⟩, ⟨hB_⟩⟩
        case round =>
          clear H'
          obtain ⟨x5_2, x28_2, rfl, HA, HK2, HO_5, HB⟩ := hrel
          cases gk with
          | zero => exact absurd HA.out (by simp [impl_RenamePerm.l0])
          | succ k2 =>
            have H := HA.out
            clear HA
            simp only [impl_RenamePerm.l0] at H
            by_cases c18 : x28_2 < (l0.length : Int)
            · rw [if_pos c18] at H
              have c18b0 := decide_eq_true c18
              clear c18
              have c19 := cp_ H
              replace H := ca_ H
              have c19b0 := decide_eq_true c19
              clear c19
              have c20 := cp_ H
              replace H := ca_ H
              have c20b0 := decide_eq_true c20
              clear c20
              have c21 := cp_ H
              replace H := ca_ H
              have c21b0 := decide_eq_true c21
              clear c21
              have c22 := cp_ H
              replace H := ca_ H
              have c22b0 := decide_eq_true c22
              clear c22
              have c23 := cp_ H
              replace H := ca_ H
              have c23b0 := decide_eq_true c23
              clear c23
              have c24 := cp_ H
              replace H := ca_ H
              have c24b0 := decide_eq_true c24
              clear c24
              have c25 := cp_ H
              replace H := ca_ H
              have c25b0 := decide_eq_true c25
              clear c25
              obtain ⟨y249, hy249⟩ : ∃ y_ : List Int, y_ = (x5_2.set ((rd l1 x28_2) : Int).toNat (rd l1 (rd l0 x28_2))) := ⟨_, rfl⟩
              replace H : (impl_RenamePerm.l0 k2 l1 y249 l0 (l0.length : Int) (wrap64 (x28_2 + 1))) = some r := by first | (rw [hy249]; exact H) | exact H
              have Ny249 := Aside0.mk hy249
              clear hy249
              have H' := Aside0.mk H
              clear H
              have p246 : 0 ≤ (x28_2 : Int) := of_decide_eq_true qe_
              have q246 : x28_2 < (l0.length : Int) := of_decide_eq_true qe_
              obtain ⟨ad246, e246, hx246_0⟩ := Kd.at_int HR0.out x28_2 p246 q246
              cases e246
              replace hx246_0 := (HB.out.cell (World.block_lt_of_cell? w _ hx246_0)).trans hx246_0
              replace p246 := eq_true p246
              replace q246 := eq_true q246
              try go_wp2
              replace HO_5 := Aside0.mk (Kd.R_drew HO_5.out)
              replace HB := Aside0.mk (below_drew1 HB.out)
              have p247 : 0 ≤ (x28_2 : Int) := of_decide_eq_true qe_
              have q247 : x28_2 < (l1.length : Int) := of_decide_eq_true qe_
              obtain ⟨ad247, e247, hx247_0⟩ := Kd.at_int HR1.out x28_2 p247 q247
              have hw247_0 := hx247_0
              cases e247
              replace hx247_0 := (HB.out.cell (World.block_lt_of_cell? w _ hx247_0)).trans hx247_0
              replace p247 := eq_true p247
              replace q247 := eq_true q247
              have p248 : 0 ≤ ((rd l0 x28_2) : Int) := of_decide_eq_true qe_
              have q248 : (rd l0 x28_2) < (l1.length : Int) := of_decide_eq_true qe_
              obtain ⟨ad248, e248, hx248_0⟩ := Kd.at_int HR1.out (rd l0 x28_2) p248 q248
              have hw248_0 := hx248_0
              obtain rfl : ad247 = ad248 := (by injection e248)
              replace hx248_0 := (HB.out.cell (World.block_lt_of_cell? w _ hx248_0)).trans hx248_0
              replace p248 := eq_true p248
              replace q248 := eq_true q248
              have p26 : 0 ≤ ((rd l1 x28_2) : Int) := of_decide_eq_true qe_
              have q26 : ((rd l1 x28_2) : Int) < ((x5_2.length : Int) : Int) := of_decide_eq_true qe_
              obtain ⟨go26, co26, eo26, gb26, gl26, cl26, HG26⟩ := Kd.R_form HO_5.out (by omega)
              (first | cases eo26 | (injection eo26 with ea_ en_ ec_; (first | subst ea_ | (injection ea_ with ea_; subst ea_)); subst ec_; clear en_))
              have GB26 := Aside0.mk gb26
              have GG26 := Aside0.mk HG26
              clear gb26 gl26 HG26
              obtain ⟨hx26_0, hf26_0⟩ := Kd.R_celln 0 HO_5.out ((rd l1 x28_2) : Int) p26 q26
              replace p26 := eq_true p26
              replace q26 := eq_true q26
              have HP28 := Kd.R_putn HO_5.out ((rd l1 x28_2) : Int) (rd l1 (rd l0 x28_2))
              rw [← Ny249.out] at HP28
              have HQ28 := Aside0.mk HP28
              clear HP28
              refine start_ (n := 11) (S := fun w' => w'.cell? (ad247.add (x28_2).toNat) = some (.int .i64 (rd l1 x28_2)) ∧ w'.cell? (ad247.add ((rd l0 x28_2)).toNat) = some (.int .i64 (rd l1 (rd l0 x28_2)))) (ds := [10]) (bl_ 11 0) (by kernel_rfl) rfl (by kernel_rfl) ⟨((HB.out.cell (World.block_lt_of_cell? w _ hw247_0)).trans hw247_0), ((HB.out.cell (World.block_lt_of_cell? w _ hw248_0)).trans hw248_0)⟩ (fun hHeld => ?_); refine with_tabW impl_RenamePerm.tab7 impl_RenamePerm.bits7 (fun HT_ HW_ => ?_)
              generalize wr.drew = w27 at HO_5 HB GG26 HQ28 hf26_0 hx247_0 hx248_0 hx26_0 hHeld ⊢
              refine pu_ 0 (some 33) (bl_ 11 1) HT_ ?_
              refine pu_ 1 (some 34) (bl_ 11 3) HT_ ?_
              refine pu_ 2 (some 35) (bl_ 11 7) HT_ ?_
              refine pu_ 3 (some 36) (bl_ 11 15) HT_ ?_
              refine pu_ 5 (some 38) (bl_ 11 47) HT_ ?_
              refine pu_ 6 (some 39) (bl_ 11 111) HT_ ?_
              refine pu_ 7 (some 40) (bl_ 11 239) HT_ ?_
              refine ta_ 4 (some 37) (bl_ 11 255) HT_ HW_ hHeld ?_
              refine ta_ 8 (some 41) (bl_ 11 511) HT_ HW_ hHeld ?_
              refine pu_ 9 (some 42) (bl_ 11 1023) HT_ ?_
              refine last_ (i := 10) (N := none) (bl_ 11 2047) rfl rfl (one_of HT_.out (by kernel_rfl)) (by decide) (fun K hK => ?_)
              refine skip_ (w1 := ?_) (by rfl) rfl ?_ ?_
              rotate_left
              · go_simp
                rfl
              refine hK.out _ _ ?_
              clear hK K
              refine done_ (done_of HT_.out (by kernel_rfl)) ?_
              try go_wp2
              go_roundg k2
              case measure => have := HJ2.out; have := HK2.out; omega
              case rel => exact ⟨(y249), (wrap64 (x28_2 + 1)), qc_, H', ⟨by have := HJ2.out; have := HK2.out; omega⟩, ⟨(rr_ HQ28)⟩, ⟨by repeat (first | (with_reducible first | exact HB.out | apply below_alloc | apply pw_below_drewN | apply below_drew1 | refine below_set ?_ GB26.out) | exact HB.out)⟩⟩
            · rw [if_neg c18] at H
              have c18b0 := decide_eq_false c18
              clear c18
              obtain rfl := Option.some.inj H
              go_wp2
              go_ret
              exact ⟨_, qb_, (rr_ HO_5), hB_⟩
end Go.Proofs.Ytcggfjpnfodbaaa.A
end
section
namespace Go.Proofs.Ytcggfjpnfodbaaa.A
open Go.RowKit Go.Proofs.YtcggfjpnfodbaaaW.PrintWords Go.Proofs.YtcggfjpnfodbaaaW.PrintLast Go.Proofs.YtcggfjpnfodbaaaW.PrintMore
attribute [local go_sem] max2_int min2_int max_two min_two max_three min_three max_four min_four
set_option linter.unusedVariables false
set_option linter.unusedSimpArgs false
def impl_RenameSurface.j0 : Nat → List Int → Bool → List Int → List Int → Option (List Int × List Int × Bool)
  | 0, _, _, _, _ => none
  | k + 1, x1, x21, x251000, x251001 => if x21 = true then (some (([] : List Int), ([] : List Int), false)) else ((impl_RenamePerm.f k x251000 x1).bind fun t254 => ((impl_RenamePerm.f k x251001 x1).bind fun t257 => (some (t254, t257, true))))
def impl_RenameSurface.f (k : Nat) (l0_0 : List Int) (l0_1 : List Int) (l1 : List Int) : Option (List Int × List Int × Bool) := (impl_SurfaceOk.f k l0_0 l0_1).bind fun t252 => (if t252 = true then ((impl_PermOk.f k l1).bind fun t253 => (if t253 = true then (impl_RenameSurface.j0 k l1 ((l1.length : Int) != (l0_0.length : Int)) l0_0 l0_1) else (impl_RenameSurface.j0 k l1 true l0_0 l0_1))) else (impl_RenameSurface.j0 k l1 true l0_0 l0_1))
theorem impl_RenameSurface.mono_l : ∀ k, (∀ y0 y1 y2 y3, LeO (impl_RenameSurface.j0 k y0 y1 y2 y3) (impl_RenameSurface.j0 (k + 1) y0 y1 y2 y3))
  | 0 => fun _ _ _ _ r h => by simp [impl_RenameSurface.j0] at h
  | k + 1 => by
    have ih0 := impl_RenameSurface.mono_l k
    · intro y0 y1 y2 y3
      unfold impl_RenameSurface.j0
      repeat' first|exact ih0 _ _ _ _|exact impl_PermOk.mono _ _|exact impl_RenamePerm.mono _ _ _|exact impl_SurfaceOk.mono _ _ _|exact lo_|refine LeO.ite ?_ ?_|refine LeO.bind ?_ (fun _ => ?_)
theorem impl_RenameSurface.mono : ∀ a0 a1 a2 k, LeO (impl_RenameSurface.f k a0 a1 a2) (impl_RenameSurface.f (k + 1) a0 a1 a2) := by
  intro a0 a1 a2 k
  have ih0 := impl_RenameSurface.mono_l k
  unfold impl_RenameSurface.f
  repeat' first|exact ih0 _ _ _ _|exact impl_PermOk.mono _ _|exact impl_RenamePerm.mono _ _ _|exact impl_SurfaceOk.mono _ _ _|exact lo_|refine LeO.ite ?_ ?_|refine LeO.bind ?_ (fun _ => ?_)
def impl_RenameSurface.T3 : Bool × List (List Nat × List Nat) := (true, [([], []), ([0], [0]), ([], []), ([1, 2], [1, 2]), ([], []), ([4], [4]), ([], []), ([5, 6, 3], [5, 6]), ([3, 7], [3, 7]), ([8, 7, 0, 1, 2, 3, 4, 5, 6, 7, 8], [8]), ([9, 0, 1, 2, 3, 4, 5, 6, 7, 8, 9], [])])
def impl_RenameSurface.B3 : List Nat := [0, 1, 0, 7, 0, 16, 0, 127, 255, 511, 1023]
theorem impl_RenameSurface.tab3 : rtab .any (opsOf Try.f113 3) = impl_RenameSurface.T3 := by kernel_rfl
theorem impl_RenameSurface.bits3 : waitsOk impl_RenameSurface.T3.2 impl_RenameSurface.B3 = true := by kernel_rfl
set_option maxHeartbeats 8000000 in
set_option maxRecDepth 100000 in
theorem impl_RenameSurface.calls (k : Nat) (A0_0 : Option Addr) (c0_0 : Nat) (l0_0 : List Int) (A0_1 : Option Addr) (c0_1 : Nat) (l0_1 : List Int) (A1 : Option Addr) (c1 : Nat) (l1 : List Int) (r1 : List Int) (r2 : List Int) (r3 : Bool) (w : World) (hr0_0 : Kd.C (Kd.int .i64) w A0_0 l0_0.length l0_0) (hc0_0 : l0_0.length ≤ c0_0) (hr0_1 : Kd.C (Kd.int .i64) w A0_1 l0_1.length l0_1) (hc0_1 : l0_1.length ≤ c0_1) (hr1 : Kd.C (Kd.int .i64) w A1 l1.length l1) (hc1 : l1.length ≤ c1) (h : impl_RenameSurface.f k l0_0 l0_1 l1 = some (r1, r2, r3)) :
    Calls Try.prog 113 #[.agg #[.slice A0_0 l0_0.length c0_0, .slice A0_1 l0_1.length c0_1], .slice A1 l1.length c1] w fun e w' => ∃ v0_ v1_ : Value, e = .returned (.tuple #[.agg #[v0_, v1_], .bool r3]) ∧ Kd.R (Kd.int .i64) 3 w' w.heap.size (fun k_ => some k_ ≠ (v1_ : Value).ownBlock) v0_ r1 ∧ Kd.R (Kd.int .i64) 3 w' w.heap.size (fun k_ => some k_ ≠ (v0_ : Value).ownBlock) v1_ r2 ∧ Below w.heap.size w w' := by
  have hu25 := Try.underlying25
  have HR0_0 := Aside0.mk hr0_0
  have HC0_0 := Aside0.mk hc0_0
  clear hr0_0 hc0_0
  have HR0_1 := Aside0.mk hr0_1
  have HC0_1 := Aside0.mk hc0_1
  clear hr0_1 hc0_1
  have HR1 := Aside0.mk hr1
  have HC1 := Aside0.mk hc1
  clear hr1 hc1
  have HB := Aside0.mk (Below.refl w.heap.size w)
  have H := h
  unfold impl_RenameSurface.f at H
  clear h
  have HC3 := Aside0.mk H
  clear H
  go_enter Try.func113, Try.ntmps113
  go_upto_region 1 with (first | ((with_reducible refine gate_dst (N := 2) rfl ?_); (try (refine gate_guard (by rfl) ?_; dsimp only)); refine bx_ 2 #[.slice A0_0 l0_0.length c0_0, .slice A0_1 l0_1.length c0_1] 25 ?_; intro gb250 hg w4 hbox hb; have BK250 := Aside0.mk hbox; have GW250 := gw_ w hg; have GE250 := GW250; replace HB := b1_ hb; clear hb hbox hg) | ((with_reducible refine gate_dst (N := 4) rfl ?_); (try (refine gate_guard (by rfl) ?_; dsimp only)); refine bx_ 4 #[.slice none 0 0, .slice none 0 0] 25 ?_; intro gb251 hg w5 hbox hb; have BK251 := Aside0.mk hbox; have GW251 := gw_ w hg; have GE251 := GW251; replace HB := b1_ hb; have NB250_251 := gN_ BK250 hg; have NB251_250 := gP_ BK250 hg; replace BK250 := bb_ BK250 hb; clear hb hbox hg))
  (try simp only [Act.put, List.setIfInBounds_toArray, List.set_cons_zero, List.set_cons_succ])
  go_cut [21] (fun v21 wc => ∃ (kq : Nat) (x21_2 : Bool), v21 = .bool x21_2 ∧ Aside0 (impl_RenameSurface.j0 kq l1 x21_2 l0_0 l0_1 = some (r1, r2, r3)) ∧ Aside0 (kq ≤ k) ∧ Aside0 (wc.heap[gb250]? = some (.cells #[(.slice A0_0 l0_0.length c0_0), (.slice A0_1 l0_1.length c0_1)] 25 (0, 0))) ∧ Aside0 (wc.heap[gb251]? = some (.cells #[(.slice none 0 0), (.slice none 0 0)] 25 (0, 0))) ∧ Aside0 (Below w.heap.size w wc))
  case first =>
    have H := HC3.out
    clear HC3
    obtain ⟨t252, A6, H⟩ := bi_ H
    by_cases c7 : t252 = true
    · subst c7
      rw [if_pos rfl] at H
      obtain ⟨t253, A8, H⟩ := bi_ H
      by_cases c9 : t253 = true
      · subst c9
        rw [if_pos rfl] at H
        have H' := Aside0.mk H
        clear H
        have hnb10 := NB250_251.out
        have hnc10 := NB251_250.out
        obtain ⟨hcz11_0, hcz11_1, hfz11_0, hfz11_1⟩ := c2_ BK250
        go_wp2_with (first | ((with_reducible refine gate_callee (f := 66) rfl ?_); refine gL_ (some 7) Try.func66 #[.agg #[.slice A0_0 l0_0.length c0_0, .slice A0_1 l0_1.length c0_1]] rfl qa_ ?_; (with_reducible refine (impl_SurfaceOk.calls k _ _ l0_0 _ _ l0_1 true _ (cb_ HR0_0) HC0_0.out (cb_ HR0_1) HC0_1.out A6.out).mono ?_); rintro e w12 ⟨rfl, hb⟩; refine ⟨_, rfl, ?_⟩; replace BK250 := bb_ BK250 hb; replace BK251 := bb_ BK251 hb; replace HB := b1_ hb; clear hb) | (go_at_call 107; (with_reducible refine (impl_PermOk.calls k _ _ l1 true _ (cb_ HR1) HC1.out A8.out).mono ?_); rintro e w13 ⟨rfl, hb⟩; replace BK250 := bb_ BK250 hb; replace BK251 := bb_ BK251 hb; replace HB := b1_ hb; clear hb; obtain ⟨hcz14_0, hcz14_1, hfz14_0, hfz14_1⟩ := c2_ BK250))
        go_meet
        case rel => exact ⟨_, (((l1.length : Int) != (l0_0.length : Int))), qc_, H', ⟨qd_⟩, ⟨(kk_ BK250)⟩, ⟨(kk_ BK251)⟩, ⟨hB_⟩⟩
      · replace c9 := Bool.eq_false_iff.mpr c9
        subst c9
        have H1 : (impl_RenameSurface.j0 k l1 true l0_0 l0_1) = some (r1, r2, r3) := by rw [if_neg (show ¬ (false = true) by decide)] at H; exact H
        clear H
        have H := H1
        clear H1
        have H' := Aside0.mk H
        clear H
        have hnb15 := NB250_251.out
        have hnc15 := NB251_250.out
        obtain ⟨hcz16_0, hcz16_1, hfz16_0, hfz16_1⟩ := c2_ BK250
        go_wp2_with (first | ((with_reducible refine gate_callee (f := 66) rfl ?_); refine gL_ (some 7) Try.func66 #[.agg #[.slice A0_0 l0_0.length c0_0, .slice A0_1 l0_1.length c0_1]] rfl qa_ ?_; (with_reducible refine (impl_SurfaceOk.calls k _ _ l0_0 _ _ l0_1 true _ (cb_ HR0_0) HC0_0.out (cb_ HR0_1) HC0_1.out A6.out).mono ?_); rintro e w17 ⟨rfl, hb⟩; refine ⟨_, rfl, ?_⟩; replace BK250 := bb_ BK250 hb; replace BK251 := bb_ BK251 hb; replace HB := b1_ hb; clear hb) | (go_at_call 107; (with_reducible refine (impl_PermOk.calls k _ _ l1 false _ (cb_ HR1) HC1.out A8.out).mono ?_); rintro e w18 ⟨rfl, hb⟩; replace BK250 := bb_ BK250 hb; replace BK251 := bb_ BK251 hb; replace HB := b1_ hb; clear hb))
        go_meet
        case rel => exact ⟨_, (true), qc_, H', ⟨qd_⟩, ⟨(kk_ BK250)⟩, ⟨(kk_ BK251)⟩, ⟨hB_⟩⟩
    · replace c7 := Bool.eq_false_iff.mpr c7
      subst c7
      have H1 : (impl_RenameSurface.j0 k l1 true l0_0 l0_1) = some (r1, r2, r3) := by rw [if_neg (show ¬ (false = true) by decide)] at H; exact H
      clear H
      have H := H1
      clear H1
      have H' := Aside0.mk H
      clear H
      have hnb19 := NB250_251.out
      have hnc19 := NB251_250.out
      obtain ⟨hcz20_0, hcz20_1, hfz20_0, hfz20_1⟩ := c2_ BK250
      go_wp2_with (first | ((with_reducible refine gate_callee (f := 66) rfl ?_); refine gL_ (some 7) Try.func66 #[.agg #[.slice A0_0 l0_0.length c0_0, .slice A0_1 l0_1.length c0_1]] rfl qa_ ?_; (with_reducible refine (impl_SurfaceOk.calls k _ _ l0_0 _ _ l0_1 false _ (cb_ HR0_0) HC0_0.out (cb_ HR0_1) HC0_1.out A6.out).mono ?_); rintro e w21 ⟨rfl, hb⟩; refine ⟨_, rfl, ?_⟩; replace BK250 := bb_ BK250 hb; replace BK251 := bb_ BK251 hb; replace HB := b1_ hb; clear hb))
      go_meet
      case rel => exact ⟨_, (true), qc_, H', ⟨qd_⟩, ⟨(kk_ BK250)⟩, ⟨(kk_ BK251)⟩, ⟨hB_⟩⟩
  case rest =>
    clear HC3
    obtain ⟨kq, x21_2, rfl, HA, HJ2, BK250, BK251, HB⟩ := hcut
    cases kq with
    | zero => exact absurd HA.out (by simp [impl_RenameSurface.j0])
    | succ kj2 =>
      have H := HA.out
      clear HA
      simp only [impl_RenameSurface.j0] at H
      by_cases c22 : x21_2 = true
      · subst c22
        rw [if_pos rfl] at H
        simp only [Option.some.injEq, Prod.mk.injEq] at H
        obtain ⟨rfl, rfl, rfl⟩ := H
        have hnb23 := NB251_250.out
        have hnc23 := NB250_251.out
        obtain ⟨hcz24_0, hcz24_1, hfz24_0, hfz24_1⟩ := c2_ BK251
        go_wp2
        refine bodyPost_ret (results_ct rfl _ _ gb251 25 #[.slice none 0 0, .slice none 0 0] (0, 0) _ rfl qp_ Try.underlying25 rfl (by kernel_rfl)) rfl ?_
        exact ⟨_, _, qb_, by first | exact Kd.R_nil _ _ _ _ _ | exact Kd.N_nil _ _ _ _ _ | exact Kd.V_nil _ _ _ _ _ | exact Kd.Q_nil _ _ _ _ _ | exact Kd.S_nil _ _ _ _ _, by first | exact Kd.R_nil _ _ _ _ _ | exact Kd.N_nil _ _ _ _ _ | exact Kd.V_nil _ _ _ _ _ | exact Kd.Q_nil _ _ _ _ _ | exact Kd.S_nil _ _ _ _ _, hB_⟩
      · replace c22 := Bool.eq_false_iff.mpr c22
        subst c22
        have H1 : ((impl_RenamePerm.f kj2 l0_0 l1).bind fun t254 => ((impl_RenamePerm.f kj2 l0_1 l1).bind fun t257 => (some (t254, t257, true)))) = some (r1, r2, r3) := by rw [if_neg (show ¬ (false = true) by decide)] at H; exact H
        clear H
        have H := H1
        clear H1
        obtain ⟨t254, A25, H⟩ := bi_ H
        obtain ⟨t257, A26, H⟩ := bi_ H
        simp only [Option.some.injEq, Prod.mk.injEq] at H
        obtain ⟨rfl, rfl, rfl⟩ := H
        try go_wp2
        replace BK250 := Aside0.mk (blk_drew BK250.out)
        replace BK251 := Aside0.mk (blk_drew BK251.out)
        replace HB := Aside0.mk (below_drew1 HB.out)
        refine start_ (n := 11) (S := fun w' => w'.cell? ⟨gb250, 0, none⟩ = some (.slice A0_0 l0_0.length c0_0) ∧ w'.cell? ⟨gb250, 1, none⟩ = some (.slice A0_1 l0_1.length c0_1)) (ds := []) (bl_ 11 0) (by kernel_rfl) rfl (by kernel_rfl) ⟨cz0_ BK250, cz1_ BK250⟩ (fun hHeld => ?_); refine with_tabW impl_RenameSurface.tab3 impl_RenameSurface.bits3 (fun HT_ HW_ => ?_)
        generalize wc.drew = w27 at BK250 BK251 HB hHeld ⊢
        refine pu_ 0 (some 23) (bl_ 11 1) HT_ ?_
        refine pu_ 2 (some 25) (bl_ 11 5) HT_ ?_
        refine pu_ 4 (some 27) (bl_ 11 21) HT_ ?_
        refine pu_ 6 (some 29) (bl_ 11 85) HT_ ?_
        refine ta_ 1 (some 24) (bl_ 11 87) HT_ HW_ hHeld ?_
        refine ta_ 5 (some 28) (bl_ 11 119) HT_ HW_ hHeld ?_
        refine on_ 3 (some 26) (bl_ 11 127) HT_ (fun K hK => ?_)
        refine gO_ Try.func144 #[.slice A0_0 l0_0.length c0_0, .slice A1 l1.length c1] (by rfl) rfl rfl qa_ ?_
        with_reducible refine (impl_RenamePerm.calls kj2 _ _ l0_0 _ _ l1 t254 _ (cb_ HR0_0) HC0_0.out (cb_ HR1) HC1.out A25.out).mono ?_
        rintro e w28 ⟨v255, rfl, ho0, hb⟩
        refine ⟨_, rfl, ?_⟩
        have HO256 := rl_ w ho0
        replace BK250 := bb_ BK250 hb
        replace BK251 := bb_ BK251 hb
        replace HB := b1_ hb
        clear hb ho0
        refine hK.out _ _ ⟨cz0_ BK250, cz1_ BK250⟩ (fun hHeld => ?_)
        clear hK K
        refine no_ (some 26) ?_
        refine on_ 7 (some 30) (bl_ 11 255) HT_ (fun K hK => ?_)
        refine gO_ Try.func144 #[.slice A0_1 l0_1.length c0_1, .slice A1 l1.length c1] (by rfl) rfl rfl qa_ ?_
        with_reducible refine (impl_RenamePerm.calls kj2 _ _ l0_1 _ _ l1 t257 _ (cb_ HR0_1) HC0_1.out (cb_ HR1) HC1.out A26.out).mono ?_
        rintro e w29 ⟨v258, rfl, ho0, hb⟩
        refine ⟨_, rfl, ?_⟩
        have HO259 := Aside0.mk (Kd.R_lower (Kd.R_new' ho0 (Kd.R_lt (rr_ HO256))) (below_size hB_))
        replace HO256 := Aside0.mk (Kd.R_elder' (rr_ HO256) (Kd.R_base ho0) hb)
        replace BK250 := bb_ BK250 hb
        replace BK251 := bb_ BK251 hb
        replace HB := b1_ hb
        clear hb ho0
        obtain ⟨Ao30, co30, eo30⟩ := Kd.R_slice HO259.out
        (first | subst eo30 | (injection eo30 with f1_ f2_ f3_; have f4_ := f1_.symm; have f5_ := f3_.symm; clear f1_ f2_ f3_; subst f4_; subst f5_))
        obtain ⟨Ao31, co31, eo31⟩ := Kd.R_slice HO256.out
        (first | subst eo31 | (injection eo31 with f1_ f2_ f3_; have f4_ := f1_.symm; have f5_ := f3_.symm; clear f1_ f2_ f3_; subst f4_; subst f5_))
        refine hK.out _ _ ⟨cz0_ BK250, cz1_ BK250⟩ (fun hHeld => ?_)
        clear hK K
        refine no_ (some 30) ?_
        refine pu_ 8 (some 31) (bl_ 11 511) HT_ ?_
        refine on_ 9 (none) (bl_ 11 1023) HT_ (fun K hK => ?_)
        have hs32 : w29.cell? ⟨gb251, 0, none⟩ = some (.slice none 0 0) := cz0_ BK251
        have hfs32 := blk_frozen BK251.out 0
        have hns32_0 := NB250_251.out
        have hms32_0 := NB251_250.out
        have hs33 : w29.cell? ⟨gb251, 1, none⟩ = some (.slice none 0 0) := cz1_ BK251
        have hfs33 := blk_frozen BK251.out 1
        have hns33_0 := NB250_251.out
        have hms33_0 := NB251_250.out
        refine skip_ (w1 := ?_) (by rfl) rfl ?_ ?_
        rotate_left
        · go_simp
          rfl
        refine hK.out _ _ ⟨((cell_far (p := ⟨gb251, _, none⟩) NB250_251.out _).trans (((cell_far (p := ⟨gb251, _, none⟩) NB250_251.out _).trans (hHeld.1)))), ((cell_far (p := ⟨gb251, _, none⟩) NB250_251.out _).trans (((cell_far (p := ⟨gb251, _, none⟩) NB250_251.out _).trans (hHeld.2))))⟩ (fun hHeld => ?_)
        clear hK K
        refine pu_ 10 (some 5) (bl_ 11 2047) HT_ ?_
        refine done_ (done_of HT_.out (by kernel_rfl)) ?_
        try go_wp2
        refine bodyPost_ret (results_ct rfl _ _ gb251 25 #[.slice Ao31 t254.length co31, .slice Ao30 t257.length co30] (0, 0) _ rfl qp_ Try.underlying25 rfl (by kernel_rfl)) rfl ?_
        exact ⟨_, _, qb_, (rw_ (Kd.R_mono (fa_ HO256 BK251) (fun _ hk => hk.2))), (rw_ (Kd.R_mono (fa_ HO259 BK251) (fun _ hk => hk.2))), hB_⟩
end Go.Proofs.Ytcggfjpnfodbaaa.A
end
section
namespace Go.Proofs.Ytcggfjpnfodbaaa.A
open Go.RowKit Go.Proofs.YtcggfjpnfodbaaaW.PrintWords Go.Proofs.YtcggfjpnfodbaaaW.PrintLast Go.Proofs.YtcggfjpnfodbaaaW.PrintMore
attribute [local go_sem] max2_int min2_int max_two min_two max_three min_three max_four min_four
set_option linter.unusedVariables false
set_option linter.unusedSimpArgs false
mutual
def impl_NamesFrom.j0 : Nat → Int → Bool → List Int → List Int → Option (List Int)
  | 0, _, _, _, _ => none
  | k + 1, x1, x24, x261000, x261001 => if x24 = true then (some ([] : List Int)) else (if 0 ≤ (x261000.length : Int) then (if ((x261000.length : Int) : Int).toNat ≤ 35184372088832 then ((some (List.replicate ((x261000.length : Int) : Int).toNat 0 : List Int)).bind fun y262 => (impl_NamesFrom.l0 k x1 y262 (y262.length : Int) 0 x261000 x261001)) else (none)) else (none))
def impl_NamesFrom.l0 : Nat → Int → List Int → Int → Int → List Int → List Int → Option (List Int)
  | 0, _, _, _, _, _, _ => none
  | k + 1, x1, x5, x30, x31, x261000, x261001 => if x31 < x30 then (if 0 ≤ x31 then (if x31 < (x5.length : Int) then (impl_NamesFrom.l0 k x1 (x5.set (x31 : Int).toNat (-1)) x30 (wrap64 (x31 + 1)) x261000 x261001) else (none)) else (none)) else (if 0 ≤ x1 then (if x1 < (x5.length : Int) then (impl_NamesFrom.l1 k (x5.set (x1 : Int).toNat 0) (([x1] : List Int)) 0 x261000 x261001) else (none)) else (none))
def impl_NamesFrom.l1 : Nat → List Int → List Int → Int → List Int → List Int → Option (List Int)
  | 0, _, _, _, _, _ => none
  | k + 1, x5, x7, x8, x261000, x261001 => if x8 < (x7.length : Int) then (if 0 ≤ x8 then (if 0 ≤ (rd x7 x8) then (if (rd x7 x8) < (x261000.length : Int) then (if (rd x7 x8) < (x261001.length : Int) then ((some (([rd x261000 (rd x7 x8), rd x261001 (rd x7 x8)] : List Int) : List Int)).bind fun y274 => (impl_NamesFrom.l2 k x5 x7 x8 y274 (y274.length : Int) 0 x261000 x261001)) else (none)) else (none)) else (none)) else (none)) else (some x5)
def impl_NamesFrom.l2 : Nat → List Int → List Int → Int → List Int → Int → Int → List Int → List Int → Option (List Int)
  | 0, _, _, _, _, _, _, _, _ => none
  | k + 1, x5, x7, x8, x65, x66, x67, x261000, x261001 => if x67 < x66 then (if 0 ≤ x67 then (if x67 < (x65.length : Int) then (if 0 ≤ (rd x65 x67) then (if (rd x65 x67) < (x5.length : Int) then (if (rd x5 (rd x65 x67)) < 0 then (if x7.length < 17592186044416 then (impl_NamesFrom.l2 k (x5.set ((rd x65 x67) : Int).toNat (x7.length : Int)) (x7 ++ [rd x65 x67]) x8 x65 x66 (wrap64 (x67 + 1)) x261000 x261001) else (none)) else (impl_NamesFrom.l2 k x5 x7 x8 x65 x66 (wrap64 (x67 + 1)) x261000 x261001)) else (none)) else (none)) else (none)) else (none)) else (impl_NamesFrom.l1 k x5 x7 (wrap64 (x8 + 1)) x261000 x261001)
end
def impl_NamesFrom.f (k : Nat) (l0_0 : List Int) (l0_1 : List Int) (a1 : Int) : Option (List Int) := (impl_SurfaceOk.f k l0_0 l0_1).bind fun t261 => (if t261 = true then (if a1 < 0 then (impl_NamesFrom.j0 k a1 true l0_0 l0_1) else (impl_NamesFrom.j0 k a1 (decide (a1 ≥ (l0_0.length : Int))) l0_0 l0_1)) else (impl_NamesFrom.j0 k a1 true l0_0 l0_1))
theorem impl_NamesFrom.mono_l : ∀ k, (∀ y0 y1 y2 y3, LeO (impl_NamesFrom.j0 k y0 y1 y2 y3) (impl_NamesFrom.j0 (k + 1) y0 y1 y2 y3)) ∧ (∀ y0 y1 y2 y3 y4 y5, LeO (impl_NamesFrom.l0 k y0 y1 y2 y3 y4 y5) (impl_NamesFrom.l0 (k + 1) y0 y1 y2 y3 y4 y5)) ∧ (∀ y0 y1 y2 y3 y4, LeO (impl_NamesFrom.l1 k y0 y1 y2 y3 y4) (impl_NamesFrom.l1 (k + 1) y0 y1 y2 y3 y4)) ∧ (∀ y0 y1 y2 y3 y4 y5 y6 y7, LeO (impl_NamesFrom.l2 k y0 y1 y2 y3 y4 y5 y6 y7) (impl_NamesFrom.l2 (k + 1) y0 y1 y2 y3 y4 y5 y6 y7))
  | 0 => ⟨fun _ _ _ _ r h => by simp [impl_NamesFrom.j0] at h, fun _ _ _ _ _ _ r h => by simp [impl_NamesFrom.l0] at h, fun _ _ _ _ _ r h => by simp [impl_NamesFrom.l1] at h, fun _ _ _ _ _ _ _ _ r h => by simp [impl_NamesFrom.l2] at h⟩
  | k + 1 => by
    obtain ⟨ih0, ih1, ih2, ih3⟩ := impl_NamesFrom.mono_l k
    refine ⟨?_, ?_, ?_, ?_⟩
    · intro y0 y1 y2 y3
      unfold impl_NamesFrom.j0
      repeat' first|exact ih0 _ _ _ _|exact ih1 _ _ _ _ _ _|exact ih2 _ _ _ _ _|exact ih3 _ _ _ _ _ _ _ _|exact impl_SurfaceOk.mono _ _ _|exact lo_|refine LeO.ite ?_ ?_|refine LeO.bind ?_ (fun _ => ?_)
    · intro y0 y1 y2 y3 y4 y5
      unfold impl_NamesFrom.l0
      repeat' first|exact ih0 _ _ _ _|exact ih1 _ _ _ _ _ _|exact ih2 _ _ _ _ _|exact ih3 _ _ _ _ _ _ _ _|exact impl_SurfaceOk.mono _ _ _|exact lo_|refine LeO.ite ?_ ?_|refine LeO.bind ?_ (fun _ => ?_)
    · intro y0 y1 y2 y3 y4
      unfold impl_NamesFrom.l1
      repeat' first|exact ih0 _ _ _ _|exact ih1 _ _ _ _ _ _|exact ih2 _ _ _ _ _|exact ih3 _ _ _ _ _ _ _ _|exact impl_SurfaceOk.mono _ _ _|exact lo_|refine LeO.ite ?_ ?_|refine LeO.bind ?_ (fun _ => ?_)
    · intro y0 y1 y2 y3 y4 y5 y6 y7
      unfold impl_NamesFrom.l2
      repeat' first|exact ih0 _ _ _ _|exact ih1 _ _ _ _ _ _|exact ih2 _ _ _ _ _|exact ih3 _ _ _ _ _ _ _ _|exact impl_SurfaceOk.mono _ _ _|exact lo_|refine LeO.ite ?_ ?_|refine LeO.bind ?_ (fun _ => ?_)
theorem impl_NamesFrom.mono : ∀ a0 a1 a2 k, LeO (impl_NamesFrom.f k a0 a1 a2) (impl_NamesFrom.f (k + 1) a0 a1 a2) := by
  intro a0 a1 a2 k
  obtain ⟨ih0, ih1, ih2, ih3⟩ := impl_NamesFrom.mono_l k
  unfold impl_NamesFrom.f
  repeat' first|exact ih0 _ _ _ _|exact ih1 _ _ _ _ _ _|exact ih2 _ _ _ _ _|exact ih3 _ _ _ _ _ _ _ _|exact impl_SurfaceOk.mono _ _ _|exact lo_|refine LeO.ite ?_ ?_|refine LeO.bind ?_ (fun _ => ?_)
def impl_NamesFrom.T14 : Bool × List (List Nat × List Nat) := (true, [([], []), ([0], [0]), ([], []), ([], []), ([2, 3], [2, 3]), ([4], [4]), ([1, 5], [1, 5]), ([6], [6]), ([], []), ([8], [8]), ([], []), ([], []), ([10, 11], [10, 11]), ([12], [12]), ([9, 13], [9, 13]), ([14], [14]), ([7, 15], [7, 15]), ([16], [16]), ([], [])])
def impl_NamesFrom.B14 : List Nat := [0, 1, 0, 0, 12, 28, 63, 127, 0, 256, 0, 0, 3072, 7168, 16128, 32512, 65535, 131071, 0]
theorem impl_NamesFrom.tab14 : rtab .any (opsOf Try.f114 14) = impl_NamesFrom.T14 := by kernel_rfl
theorem impl_NamesFrom.bits14 : waitsOk impl_NamesFrom.T14.2 impl_NamesFrom.B14 = true := by kernel_rfl
set_option maxHeartbeats 8000000 in
set_option maxRecDepth 100000 in
theorem impl_NamesFrom.calls (k : Nat) (A0_0 : Option Addr) (c0_0 : Nat) (l0_0 : List Int) (A0_1 : Option Addr) (c0_1 : Nat) (l0_1 : List Int) (a1 : Int) (r : List Int) (w : World) (hr0_0 : Kd.C (Kd.int .i64) w A0_0 l0_0.length l0_0) (hc0_0 : l0_0.length ≤ c0_0) (hr0_1 : Kd.C (Kd.int .i64) w A0_1 l0_1.length l0_1) (hc0_1 : l0_1.length ≤ c0_1) (h : impl_NamesFrom.f k l0_0 l0_1 a1 = some r) :
    Calls Try.prog 114 #[.agg #[.slice A0_0 l0_0.length c0_0, .slice A0_1 l0_1.length c0_1], .int .i64 a1] w fun e w' => ∃ v0_ : Value, e = .returned (v0_) ∧ Kd.R (Kd.int .i64) 3 w' w.heap.size (fun _ => True) v0_ r ∧ Below w.heap.size w w' := by
  have hu25 := Try.underlying25
  have HR0_0 := Aside0.mk hr0_0
  have HC0_0 := Aside0.mk hc0_0
  clear hr0_0 hc0_0
  have HR0_1 := Aside0.mk hr0_1
  have HC0_1 := Aside0.mk hc0_1
  clear hr0_1 hc0_1
  have HB := Aside0.mk (Below.refl w.heap.size w)
  have H := h
  unfold impl_NamesFrom.f at H
  clear h
  have HC3 := Aside0.mk H
  clear H
  go_enter Try.func114, Try.ntmps114
  go_upto_region 1 with (first | ((with_reducible refine gate_dst (N := 2) rfl ?_); (try (refine gate_guard (by rfl) ?_; dsimp only)); refine bx_ 2 #[.slice A0_0 l0_0.length c0_0, .slice A0_1 l0_1.length c0_1] 25 ?_; intro gb260 hg w4 hbox hb; have BK260 := Aside0.mk hbox; have GW260 := gw_ w hg; have GE260 := GW260; replace HB := b1_ hb; clear hb hbox hg))
  (try simp only [Act.put, List.setIfInBounds_toArray, List.set_cons_zero, List.set_cons_succ])
  go_cut [24] (fun v24 wc => ∃ (kq : Nat) (x24_2 : Bool), v24 = .bool x24_2 ∧ Aside0 (impl_NamesFrom.j0 kq a1 x24_2 l0_0 l0_1 = some r) ∧ Aside0 (kq ≤ k) ∧ Aside0 (wc.heap[gb260]? = some (.cells #[(.slice A0_0 l0_0.length c0_0), (.slice A0_1 l0_1.length c0_1)] 25 (0, 0))) ∧ Aside0 (Below w.heap.size w wc))
  case first =>
    have H := HC3.out
    clear HC3
    obtain ⟨t261, A5, H⟩ := bi_ H
    by_cases c6 : t261 = true
    · subst c6
      rw [if_pos rfl] at H
      by_cases c7 : a1 < 0
      · rw [if_pos c7] at H
        have c7b0 := decide_eq_true c7
        clear c7
        (first | rw [c7b0] | (simp only [i64_w, i32_w]; rw [c7b0]) | skip)
        have H' := Aside0.mk H
        clear H
        obtain ⟨hcz8_0, hcz8_1, hfz8_0, hfz8_1⟩ := c2_ BK260
        go_wp2_with (first | ((with_reducible refine gate_callee (f := 66) rfl ?_); refine gL_ (some 12) Try.func66 #[.agg #[.slice A0_0 l0_0.length c0_0, .slice A0_1 l0_1.length c0_1]] rfl qa_ ?_; (with_reducible refine (impl_SurfaceOk.calls k _ _ l0_0 _ _ l0_1 true _ (cb_ HR0_0) HC0_0.out (cb_ HR0_1) HC0_1.out A5.out).mono ?_); rintro e w9 ⟨rfl, hb⟩; refine ⟨_, rfl, ?_⟩; replace BK260 := bb_ BK260 hb; replace HB := b1_ hb; clear hb))
        go_meet
        case rel => exact ⟨_, (true), qc_, H', ⟨qd_⟩, ⟨(kk_ BK260)⟩, ⟨hB_⟩⟩
      · rw [if_neg c7] at H
        have c7b0 := decide_eq_false c7
        clear c7
        (first | rw [c7b0] | (simp only [i64_w, i32_w]; rw [c7b0]) | skip)
        have H' := Aside0.mk H
        clear H
        obtain ⟨hcz10_0, hcz10_1, hfz10_0, hfz10_1⟩ := c2_ BK260
        go_wp2_with (first | ((with_reducible refine gate_callee (f := 66) rfl ?_); refine gL_ (some 12) Try.func66 #[.agg #[.slice A0_0 l0_0.length c0_0, .slice A0_1 l0_1.length c0_1]] rfl qa_ ?_; (with_reducible refine (impl_SurfaceOk.calls k _ _ l0_0 _ _ l0_1 true _ (cb_ HR0_0) HC0_0.out (cb_ HR0_1) HC0_1.out A5.out).mono ?_); rintro e w11 ⟨rfl, hb⟩; refine ⟨_, rfl, ?_⟩; replace BK260 := bb_ BK260 hb; replace HB := b1_ hb; clear hb; obtain ⟨hcz12_0, hcz12_1, hfz12_0, hfz12_1⟩ := c2_ BK260))
        go_meet
        case rel => exact ⟨_, (decide (a1 ≥ (l0_0.length : Int))), qc_, H', ⟨qd_⟩, ⟨(kk_ BK260)⟩, ⟨hB_⟩⟩
    · replace c6 := Bool.eq_false_iff.mpr c6
      subst c6
      have H1 : (impl_NamesFrom.j0 k a1 true l0_0 l0_1) = some r := by rw [if_neg (show ¬ (false = true) by decide)] at H; exact H
      clear H
      have H := H1
      clear H1
      have H' := Aside0.mk H
      clear H
      obtain ⟨hcz13_0, hcz13_1, hfz13_0, hfz13_1⟩ := c2_ BK260
      go_wp2_with (first | ((with_reducible refine gate_callee (f := 66) rfl ?_); refine gL_ (some 12) Try.func66 #[.agg #[.slice A0_0 l0_0.length c0_0, .slice A0_1 l0_1.length c0_1]] rfl qa_ ?_; (with_reducible refine (impl_SurfaceOk.calls k _ _ l0_0 _ _ l0_1 false _ (cb_ HR0_0) HC0_0.out (cb_ HR0_1) HC0_1.out A5.out).mono ?_); rintro e w14 ⟨rfl, hb⟩; refine ⟨_, rfl, ?_⟩; replace BK260 := bb_ BK260 hb; replace HB := b1_ hb; clear hb))
      go_meet
      case rel => exact ⟨_, (true), qc_, H', ⟨qd_⟩, ⟨(kk_ BK260)⟩, ⟨hB_⟩⟩
  case rest =>
    clear HC3
    obtain ⟨kq, x24_2, rfl, HA, HJ2, BK260, HB⟩ := hcut
    cases kq with
    | zero => exact absurd HA.out (by simp [impl_NamesFrom.j0])
    | succ kj2 =>
      have H := HA.out
      clear HA
      simp only [impl_NamesFrom.j0] at H
      by_cases c15 : x24_2 = true
      · subst c15
        rw [if_pos rfl] at H
        obtain rfl := Option.some.inj H
        go_wp2
        go_ret
        exact ⟨_, qb_, by first | exact Kd.R_nil _ _ _ _ _ | exact Kd.N_nil _ _ _ _ _ | exact Kd.V_nil _ _ _ _ _ | exact Kd.Q_nil _ _ _ _ _ | exact Kd.S_nil _ _ _ _ _, hB_⟩
      · replace c15 := Bool.eq_false_iff.mpr c15
        subst c15
        have H1 : (if 0 ≤ (l0_0.length : Int) then (if ((l0_0.length : Int) : Int).toNat ≤ 35184372088832 then ((some (List.replicate ((l0_0.length : Int) : Int).toNat 0 : List Int)).bind fun y262 => (impl_NamesFrom.l0 kj2 a1 y262 (y262.length : Int) 0 l0_0 l0_1)) else (none)) else (none)) = some r := by rw [if_neg (show ¬ (false = true) by decide)] at H; exact H
        clear H
        have H := H1
        clear H1
        have c16 := cp_ H
        replace H := ca_ H
        have c16b0 := eq_true c16
        have c16b1 := decide_eq_true c16
        clear c16
        have c17 := cp_ H
        replace H := ca_ H
        have c17b0 := eq_true c17
        have c17b1 := decide_eq_true c17
        clear c17
        obtain ⟨y262, hy262⟩ : ∃ y_ : List Int, y_ = (List.replicate ((l0_0.length : Int) : Int).toNat 0) := ⟨_, rfl⟩
        replace H : (impl_NamesFrom.l0 kj2 a1 y262 (y262.length : Int) 0 l0_0 l0_1) = some r := by first | (rw [hy262]; exact H) | exact H
        have Ny262 := Aside0.mk hy262
        clear hy262
        have H' := Aside0.mk H
        clear H
        obtain ⟨hcz18_0, hcz18_1, hfz18_0, hfz18_1⟩ := c2_ BK260
        go_wp2_with (first | ((with_reducible refine gate_dst (N := 28) rfl ?_); (try (refine gate_guard (by rfl) ?_; dsimp only)); refine Kd.R_make (Kd.int .i64) _ 3 rfl (N := 28) rfl 23 _ _ rfl (l0_0.length : Int) rfl rfl Try.underlying23 (.int .i64 0) 8 info3 rfl (by decide) (by omega) 0 (ok := fun _ => True) (okp := fun _ => True) rfl (fun _ hk => hk) trivial (of_decide_eq_true qe_) (Nat.le_trans (Nat.mul_le_mul_right _ (of_decide_eq_true qe_ : (l0_0.length : Int).toNat ≤ 35184372088832)) (by omega)) (Below.refl _ _) (Nat.le_refl _) ?_; intro v263 w19 ho20 hb hg_ hnew_; clear hg_ hnew_; (first | rw [← Ny262.out] at ho20 | (simp only [Int.reduceToNat] at ho20; rw [← Ny262.out] at ho20)); have HO264 := rl_ w ho20; replace BK260 := bb_ BK260 hb; replace HB := b1_ hb; clear hb ho20; obtain ⟨Ao21, co21, eo21⟩ := Kd.R_slice HO264.out; subst eo21))
        go_loopg [31] kj2 (fun kq v31 w' => ∃ (x5_2 : List Int) (x31_2 : Int), v31 = .int .i64 x31_2 ∧ Aside0 (impl_NamesFrom.l0 kq a1 x5_2 (y262.length : Int) x31_2 l0_0 l0_1 = some r) ∧ Aside0 (kq ≤ kj2) ∧ Aside0 (Kd.R (Kd.int .i64) 3 w' w.heap.size (fun _ => True) (.slice Ao21 y262.length co21) x5_2) ∧ Aside0 (w'.heap[gb260]? = some (.cells #[(.slice A0_0 l0_0.length c0_0), (.slice A0_1 l0_1.length c0_1)] 25 (0, 0))) ∧ Aside0 (Below w.heap.size w w'))
        case atStart => exact ⟨(y262), (0), qc_, H', ⟨Nat.le_refl _⟩, ⟨(rr_ HO264)⟩, ⟨(kk_ BK260)⟩, ⟨hB_⟩⟩
        case round =>
          clear H'
          obtain ⟨x5_2, x31_2, rfl, HA, HK2, HO_5, BK260, HB⟩ := hrel
          have hl5_2 := (Kd.R_reads' HO_5.out).1
          rw [hl5_2] at HO_5
          (try simp only [hl5_2])
          (try simp only [hl5_2] at BK260)
          cases gk with
          | zero => exact absurd HA.out (by simp [impl_NamesFrom.l0])
          | succ k2 =>
            have H := HA.out
            clear HA
            simp only [impl_NamesFrom.l0] at H
            by_cases c22 : x31_2 < (y262.length : Int)
            · rw [if_pos c22] at H
              have c22b0 := decide_eq_true c22
              clear c22
              have c23 := cp_ H
              replace H := ca_ H
              have c23b0 := decide_eq_true c23
              clear c23
              have c24 := cp_ H
              replace H := ca_ H
              have c24b0 := decide_eq_true c24
              clear c24
              obtain ⟨y265, hy265⟩ : ∃ y_ : List Int, y_ = (x5_2.set (x31_2 : Int).toNat (-1)) := ⟨_, rfl⟩
              replace H : (impl_NamesFrom.l0 k2 a1 y265 (y262.length : Int) (wrap64 (x31_2 + 1)) l0_0 l0_1) = some r := by first | (rw [hy265]; exact H) | exact H
              have Ny265 := Aside0.mk hy265
              clear hy265
              have H' := Aside0.mk H
              clear H
              have p25 : 0 ≤ (x31_2 : Int) := of_decide_eq_true qe_
              have q25 : (x31_2 : Int) < ((x5_2.length : Int) : Int) := of_decide_eq_true qe_
              obtain ⟨go25, co25, eo25, gb25, gl25, cl25, HG25⟩ := Kd.R_form HO_5.out (by omega)
              (first | cases eo25 | (injection eo25 with ea_ en_ ec_; (first | subst ea_ | (injection ea_ with ea_; subst ea_)); subst ec_; clear en_))
              have GB25 := Aside0.mk gb25
              have GG25 := Aside0.mk HG25
              clear gb25 gl25 HG25
              obtain ⟨hx25_0, hf25_0⟩ := Kd.R_celln 0 HO_5.out (x31_2 : Int) p25 q25
              replace p25 := eq_true p25
              replace q25 := eq_true q25
              have HP26 := Kd.R_putg HO_5.out (x31_2 : Int) (-1)
              go_wp2_with (first | ((with_reducible refine gate_store (t := 3) (p := 36) rfl ?_); refine store_event (t := 3) (p := 36) (v := ?vo_w27) (w1 := (wr.setCell ⟨go25, (x31_2 : Int).toNat, none⟩ (.int .i64 (-1)))) ?hg ?ho ?hn ?hr ?_; (case ho => rfl); (case hg => rfl); (case hn => rfl); (case hr => first | (go_simp; done) | (go_simp; rfl)); intro w27 hw; have hg : wr.grownBy w27 (some go25) := (by rw [hw]; exact HP26.2); have hp_ : Kd.R (Kd.int .i64) 3 w27 w.heap.size (fun _ => True) (.slice (some ⟨go25, 0, none⟩) x5_2.length co21) y265 := (by rw [hw, Ny265.out]; exact HP26.1); clear HP26; replace BK260 := Aside0.mk (blk_grown (kk_ BK260) hg (Kd.R_ne HO_5.out BK260.out (by decide))); replace HO_5 := Aside0.mk (hp_); replace HB := Aside0.mk ((by rw [hw]; exact below_set (HB.out) GB25.out : Below w.heap.size w w27)); clear hg hw hp_))
              (try simp only [← hl5_2])
              go_roundg k2
              case measure => have := HJ2.out; have := HK2.out; omega
              case rel => exact ⟨(y265), (wrap64 (x31_2 + 1)), qc_, H', ⟨by have := HJ2.out; have := HK2.out; omega⟩, ⟨by (try simp only [hl5_2]); (with_reducible repeat (first | apply Kd.R_alloc | apply Kd.R_drewN | apply Kd.R_drew)); exact HO_5.out⟩, ⟨by (try simp only [hl5_2]); (with_reducible repeat (first | refine blk_drewN ?_ _ | refine blk_drew ?_ | refine blk_alloc ?_ _)); exact BK260.out⟩, ⟨hB_⟩⟩
            · rw [if_neg c22] at H
              have c22b0 := decide_eq_false c22
              (try simp only [hl5_2] at c22b0)
              clear c22
              have c28 := cp_ H
              replace H := ca_ H
              have c28b0 := decide_eq_true c28
              clear c28
              have c29 := cp_ H
              replace H := ca_ H
              have c29b0 := decide_eq_true c29
              clear c29
              obtain ⟨y266, hy266⟩ : ∃ y_ : List Int, y_ = (x5_2.set (a1 : Int).toNat 0) := ⟨_, rfl⟩
              replace H : (impl_NamesFrom.l1 k2 y266 (([a1] : List Int)) 0 l0_0 l0_1) = some r := by first | (rw [hy266]; exact H) | exact H
              have Ny266 := Aside0.mk hy266
              clear hy266
              obtain ⟨y267, hy267⟩ : ∃ y_ : List Int, y_ = (([a1] : List Int)) := ⟨_, rfl⟩
              replace H : (impl_NamesFrom.l1 k2 y266 y267 0 l0_0 l0_1) = some r := by first | (rw [hy267]; exact H) | exact H
              have Ny267 := Aside0.mk hy267
              clear hy267
              have H' := Aside0.mk H
              clear H
              have p30 : 0 ≤ (a1 : Int) := of_decide_eq_true qe_
              have q30 : (a1 : Int) < ((x5_2.length : Int) : Int) := of_decide_eq_true qe_
              obtain ⟨go30, co30, eo30, gb30, gl30, cl30, HG30⟩ := Kd.R_form HO_5.out (by omega)
              (first | cases eo30 | (injection eo30 with ea_ en_ ec_; (first | subst ea_ | (injection ea_ with ea_; subst ea_)); subst ec_; clear en_))
              have GB30 := Aside0.mk gb30
              have GG30 := Aside0.mk HG30
              clear gb30 gl30 HG30
              obtain ⟨hx30_0, hf30_0⟩ := Kd.R_celln 0 HO_5.out (a1 : Int) p30 q30
              replace p30 := eq_true p30
              replace q30 := eq_true q30
              have HP31 := Kd.R_putg HO_5.out (a1 : Int) 0
              go_wp2_with (first | ((with_reducible refine gate_store (t := 3) (p := 40) rfl ?_); refine store_event (t := 3) (p := 40) (v := ?vo_w32) (w1 := (wr.setCell ⟨go30, (a1 : Int).toNat, none⟩ (.int .i64 0))) ?hg ?ho ?hn ?hr ?_; (case ho => rfl); (case hg => rfl); (case hn => rfl); (case hr => first | (go_simp; done) | (go_simp; rfl)); intro w32 hw; have hg : wr.grownBy w32 (some go30) := (by rw [hw]; exact HP31.2); have hp_ : Kd.R (Kd.int .i64) 3 w32 w.heap.size (fun _ => True) (.slice (some ⟨go30, 0, none⟩) x5_2.length co21) y266 := (by rw [hw, Ny266.out]; exact HP31.1); clear HP31; replace BK260 := Aside0.mk (blk_grown (kk_ BK260) hg (Kd.R_ne HO_5.out BK260.out (by decide))); replace HO_5 := Aside0.mk (hp_); replace HB := Aside0.mk ((by rw [hw]; exact below_set (HB.out) GB30.out : Below w.heap.size w w32)); clear hg hw hp_) | ((with_reducible refine gate_dst (N := 42) rfl ?_); (try (refine gate_guard (by rfl) ?_; dsimp only)); refine Kd.R_lit (Kd.int .i64) _ 3 ?hg (N := 42) ?hd (xs := ([a1] : List Int)) (inner := [.int .i64 a1]) (ok := fun _ => True) (okp := fun _ => True) ?hr ?hp (fun _ hk => hk) trivial (Below.refl _ _) (Nat.le_refl _) (by simp) ?_; (case hd => rfl); (case hg => rfl); (case hr => first | (go_simp; done) | (go_simp; rfl)); (case hp => exact (Reps.one (show Kd.M (Kd.int .i64) _ _ _ a1 [.int .i64 a1] from rfl) (Reps.none _ _))); intro v268 w33 ho34 hb hg_ hnew_; clear hg_ hnew_; (first | rw [← Ny267.out] at ho34 | (simp only [Int.reduceToNat] at ho34; rw [← Ny267.out] at ho34)); have HO269 := Aside0.mk (Kd.R_lower (Kd.R_new' ho34 (Kd.R_lt (rr_ HO_5))) (below_size hB_)); replace HO_5 := Aside0.mk (Kd.R_elder' (rr_ HO_5) (Kd.R_base ho34) hb); replace BK260 := bb_ BK260 hb; replace HB := b1_ hb; clear hb ho34))
              go_loopg [7, 8] k2 (fun kq v7 v8 w' => ∃ (x5_3 : List Int) (x7_3 : List Int) (x8_3 : Int), v8 = .int .i64 x8_3 ∧ Aside0 (impl_NamesFrom.l1 kq x5_3 x7_3 x8_3 l0_0 l0_1 = some r) ∧ Aside0 (kq ≤ k2) ∧ Aside0 (Kd.R (Kd.int .i64) 3 w' w.heap.size (fun k_ => some k_ ≠ (v7 : Value).ownBlock) (.slice (some ⟨go30, 0, none⟩) x5_2.length co21) x5_3) ∧ Aside0 (Kd.R (Kd.int .i64) 3 w' w.heap.size (fun k_ => some k_ ≠ ((.slice (some ⟨go30, 0, none⟩) x5_2.length co21) : Value).ownBlock) v7 x7_3) ∧ Aside0 (w'.heap[gb260]? = some (.cells #[(.slice A0_0 l0_0.length c0_0), (.slice A0_1 l0_1.length c0_1)] 25 (0, 0))) ∧ Aside0 (Below w.heap.size w w'))
              case atStart => exact ⟨(y266), (y267), (0), qc_, H', ⟨Nat.le_refl _⟩, ⟨by (try simp only [hl5_2]); (with_reducible repeat (first | apply Kd.R_alloc | apply Kd.R_drewN | apply Kd.R_drew)); exact Kd.R_mono HO_5.out (fun _ hk => hk.2)⟩, ⟨by (try simp only [hl5_2]); (with_reducible repeat (first | apply Kd.R_alloc | apply Kd.R_drewN | apply Kd.R_drew)); exact Kd.R_mono HO269.out (fun _ hk => hk.2)⟩, ⟨by (try simp only [hl5_2]); (with_reducible repeat (first | refine blk_drewN ?_ _ | refine blk_drew ?_ | refine blk_alloc ?_ _)); exact BK260.out⟩, ⟨hB_⟩⟩
              case round =>
                clear H'
                obtain ⟨x5_3, x7_3, x8_3, rfl, HA, HK3, HO_5, HO_7, BK260, HB⟩ := hrel
                have hl5_3 := (Kd.R_reads' HO_5.out).1
                rw [hl5_3] at HO_5
                (try simp only [hl5_3])
                (try simp only [hl5_3] at BK260)
                (try simp only [hl5_3] at HO_7)
                cases gk with
                | zero => exact absurd HA.out (by simp [impl_NamesFrom.l1])
                | succ k3 =>
                  have H := HA.out
                  clear HA
                  simp only [impl_NamesFrom.l1] at H
                  by_cases c35 : x8_3 < (x7_3.length : Int)
                  · rw [if_pos c35] at H
                    have c35b0 := decide_eq_true c35
                    clear c35
                    have c36 := cp_ H
                    replace H := ca_ H
                    have c36b0 := decide_eq_true c36
                    clear c36
                    have c37 := cp_ H
                    replace H := ca_ H
                    have c37b0 := decide_eq_true c37
                    clear c37
                    have c38 := cp_ H
                    replace H := ca_ H
                    have c38b0 := decide_eq_true c38
                    clear c38
                    have c39 := cp_ H
                    replace H := ca_ H
                    have c39b0 := decide_eq_true c39
                    clear c39
                    obtain ⟨y274, hy274⟩ : ∃ y_ : List Int, y_ = (([rd l0_0 (rd x7_3 x8_3), rd l0_1 (rd x7_3 x8_3)] : List Int)) := ⟨_, rfl⟩
                    replace H : (impl_NamesFrom.l2 k3 x5_3 x7_3 x8_3 y274 (y274.length : Int) 0 l0_0 l0_1) = some r := by first | (rw [hy274]; exact H) | exact H
                    have Ny274 := Aside0.mk hy274
                    clear hy274
                    have H' := Aside0.mk H
                    clear H
                    obtain ⟨Ao40, co40, eo40⟩ := Kd.R_slice HO_7.out
                    subst eo40
                    try go_wp2
                    replace HO_5 := Aside0.mk (Kd.R_drew HO_5.out)
                    replace HO_7 := Aside0.mk (Kd.R_drew HO_7.out)
                    replace BK260 := Aside0.mk (blk_drew BK260.out)
                    replace HB := Aside0.mk (below_drew1 HB.out)
                    have p270 : 0 ≤ (x8_3 : Int) := of_decide_eq_true qe_
                    have q270 : x8_3 < (x7_3.length : Int) := of_decide_eq_true qe_
                    obtain ⟨ad270, e270, hx270_0⟩ := Kd.at_int (Kd.R_reads' HO_7.out).2.2 x8_3 p270 q270
                    cases e270
                    replace p270 := eq_true p270
                    replace q270 := eq_true q270
                    have p271 : 0 ≤ ((rd x7_3 x8_3) : Int) := of_decide_eq_true qe_
                    have q271 : (rd x7_3 x8_3) < (l0_0.length : Int) := of_decide_eq_true qe_
                    obtain ⟨ad271, e271, hx271_0⟩ := Kd.at_int HR0_0.out (rd x7_3 x8_3) p271 q271
                    have hw271_0 := hx271_0
                    cases e271
                    replace hx271_0 := (HB.out.cell (World.block_lt_of_cell? w _ hx271_0)).trans hx271_0
                    replace p271 := eq_true p271
                    replace q271 := eq_true q271
                    have p272 : 0 ≤ (x8_3 : Int) := of_decide_eq_true qe_
                    have q272 : x8_3 < (x7_3.length : Int) := of_decide_eq_true qe_
                    obtain ⟨ad272, e272, hx272_0⟩ := Kd.at_int (Kd.R_reads' HO_7.out).2.2 x8_3 p272 q272
                    obtain rfl : ad270 = ad272 := (by injection e272)
                    replace p272 := eq_true p272
                    replace q272 := eq_true q272
                    have p273 : 0 ≤ ((rd x7_3 x8_3) : Int) := of_decide_eq_true qe_
                    have q273 : (rd x7_3 x8_3) < (l0_1.length : Int) := of_decide_eq_true qe_
                    obtain ⟨ad273, e273, hx273_0⟩ := Kd.at_int HR0_1.out (rd x7_3 x8_3) p273 q273
                    have hw273_0 := hx273_0
                    cases e273
                    replace hx273_0 := (HB.out.cell (World.block_lt_of_cell? w _ hx273_0)).trans hx273_0
                    replace p273 := eq_true p273
                    replace q273 := eq_true q273
                    refine start_ (n := 19) (S := fun w' => w'.cell? ⟨gb260, 0, none⟩ = some (.slice (some ad271) l0_0.length c0_0) ∧ w'.cell? ⟨gb260, 1, none⟩ = some (.slice (some ad273) l0_1.length c0_1) ∧ w'.cell? (ad270.add (x8_3).toNat) = some (.int .i64 (rd x7_3 x8_3)) ∧ w'.cell? (ad271.add ((rd x7_3 x8_3)).toNat) = some (.int .i64 (rd l0_0 (rd x7_3 x8_3))) ∧ w'.cell? (ad270.add (x8_3).toNat) = some (.int .i64 (rd x7_3 x8_3)) ∧ w'.cell? (ad273.add ((rd x7_3 x8_3)).toNat) = some (.int .i64 (rd l0_1 (rd x7_3 x8_3)))) (ds := []) (bl_ 19 0) (by kernel_rfl) rfl (by kernel_rfl) ⟨cz0_ BK260, cz1_ BK260, hx270_0, ((HB.out.cell (World.block_lt_of_cell? w _ hw271_0)).trans hw271_0), hx272_0, ((HB.out.cell (World.block_lt_of_cell? w _ hw273_0)).trans hw273_0)⟩ (fun hHeld => ?_); refine with_tabW impl_NamesFrom.tab14 impl_NamesFrom.bits14 (fun HT_ HW_ => ?_)
                    generalize wr.drew = w41 at HO_5 HO_7 BK260 HB hx270_0 hx271_0 hx272_0 hx273_0 hHeld ⊢
                    refine pu_ 0 (some 49) (bl_ 19 1) HT_ ?_
                    refine pu_ 2 (some 51) (bl_ 19 5) HT_ ?_
                    refine pu_ 3 (some 52) (bl_ 19 13) HT_ ?_
                    refine pu_ 4 (some 53) (bl_ 19 29) HT_ ?_
                    refine pu_ 8 (some 57) (bl_ 19 285) HT_ ?_
                    refine pu_ 10 (some 59) (bl_ 19 1309) HT_ ?_
                    refine pu_ 11 (some 60) (bl_ 19 3357) HT_ ?_
                    refine pu_ 12 (some 61) (bl_ 19 7453) HT_ ?_
                    refine pu_ 18 (some 67) (bl_ 19 269597) HT_ ?_
                    refine ta_ 1 (some 50) (bl_ 19 269599) HT_ HW_ hHeld ?_
                    refine ta_ 5 (some 54) (bl_ 19 269631) HT_ HW_ hHeld ?_
                    refine pu_ 6 (some 55) (bl_ 19 269695) HT_ ?_
                    refine ta_ 7 (some 56) (bl_ 19 269823) HT_ HW_ hHeld ?_
                    refine ta_ 9 (some 58) (bl_ 19 270335) HT_ HW_ hHeld ?_
                    refine ta_ 13 (some 62) (bl_ 19 278527) HT_ HW_ hHeld ?_
                    refine pu_ 14 (some 63) (bl_ 19 294911) HT_ ?_
                    refine ta_ 15 (some 64) (bl_ 19 327679) HT_ HW_ hHeld ?_
                    refine on_ 16 (some 65) (bl_ 19 393215) HT_ (fun K hK => ?_)
                    refine Kd.R_lit_step (Kd.int .i64) _ 3 ?hg (N := 65) ?hd (xs := ([rd l0_0 (rd x7_3 x8_3), rd l0_1 (rd x7_3 x8_3)] : List Int)) (inner := [.int .i64 (rd l0_0 (rd x7_3 x8_3)), .int .i64 (rd l0_1 (rd x7_3 x8_3))]) (ok := fun _ => True) (okp := fun _ => True) ?hr ?hp (fun _ hk => hk) trivial (Below.refl _ _) (Nat.le_refl _) (by simp) ?_; (case hd => rfl); (case hg => rfl); (case hr => first | (go_simp; done) | (go_simp; rfl)); (case hp => exact (Reps.one (show Kd.M (Kd.int .i64) _ _ _ (rd l0_0 (rd x7_3 x8_3)) [.int .i64 (rd l0_0 (rd x7_3 x8_3))] from rfl) (Reps.one (show Kd.M (Kd.int .i64) _ _ _ (rd l0_1 (rd x7_3 x8_3)) [.int .i64 (rd l0_1 (rd x7_3 x8_3))] from rfl) (Reps.none _ _))))
                    intro v275 w42 ho43 hb hg_ hnew_
                    have HS2_ := (hb.cell (World.block_lt_of_cell? _ _ (hHeld.2.2.1))).trans (hHeld.2.2.1)
                    have HS4_ := (hb.cell (World.block_lt_of_cell? _ _ (hHeld.2.2.2.2.1))).trans (hHeld.2.2.2.2.1)
                    clear hg_ hnew_
                    (first | rw [← Ny274.out] at ho43 | (simp only [Int.reduceToNat] at ho43; rw [← Ny274.out] at ho43))
                    have HO276 := Aside0.mk (Kd.R_lower (Kd.R_new' (Kd.R_new' ho43 (Kd.R_lt (rr_ HO_5))) (Kd.R_lt (rr_ HO_7))) (below_size hB_))
                    replace HO_5 := Aside0.mk (Kd.R_elder' (rr_ HO_5) (Kd.R_base ho43) hb)
                    replace HO_7 := Aside0.mk (Kd.R_elder' (rr_ HO_7) (Kd.R_base ho43) hb)
                    replace BK260 := bb_ BK260 hb
                    replace HB := b1_ hb
                    clear hb ho43
                    obtain ⟨Ao44, co44, eo44⟩ := Kd.R_slice HO276.out
                    (first | subst eo44 | (injection eo44 with f1_ f2_ f3_; have f4_ := f1_.symm; have f5_ := f3_.symm; clear f1_ f2_ f3_; subst f4_; subst f5_))
                    refine hK.out _ _ ⟨cz0_ BK260, cz1_ BK260, HS2_, ((HB.out.cell (World.block_lt_of_cell? w _ hw271_0)).trans hw271_0), HS4_, ((HB.out.cell (World.block_lt_of_cell? w _ hw273_0)).trans hw273_0)⟩ (fun hHeld => ?_)
                    clear hK K
                    refine no_ (some 65) ?_
                    refine pu_ 17 (some 66) (bl_ 19 524287) HT_ ?_
                    refine done_ (done_of HT_.out (by kernel_rfl)) ?_
                    try go_wp2
                    go_loopg [7, 67] k3 (fun kq v7 v67 w' => ∃ (x5_4 : List Int) (x7_4 : List Int) (x67_4 : Int), v67 = .int .i64 x67_4 ∧ Aside0 (impl_NamesFrom.l2 kq x5_4 x7_4 x8_3 y274 (y274.length : Int) x67_4 l0_0 l0_1 = some r) ∧ Aside0 (kq ≤ k3) ∧ Aside0 (Kd.R (Kd.int .i64) 3 w' w.heap.size (fun k_ => some k_ ≠ (v7 : Value).ownBlock ∧ some k_ ≠ ((.slice Ao44 y274.length co44) : Value).ownBlock) (.slice (some ⟨go30, 0, none⟩) x5_3.length co21) x5_4) ∧ Aside0 (Kd.R (Kd.int .i64) 3 w' w.heap.size (fun k_ => some k_ ≠ ((.slice (some ⟨go30, 0, none⟩) x5_3.length co21) : Value).ownBlock ∧ some k_ ≠ ((.slice Ao44 y274.length co44) : Value).ownBlock) v7 x7_4) ∧ Aside0 (Kd.R (Kd.int .i64) 3 w' w.heap.size (fun k_ => some k_ ≠ ((.slice (some ⟨go30, 0, none⟩) x5_3.length co21) : Value).ownBlock ∧ some k_ ≠ (v7 : Value).ownBlock) (.slice Ao44 y274.length co44) y274) ∧ Aside0 (w'.heap[gb260]? = some (.cells #[(.slice (some ad271) l0_0.length c0_0), (.slice (some ad273) l0_1.length c0_1)] 25 (0, 0))) ∧ Aside0 (Below w.heap.size w w'))
                    case atStart => exact ⟨(x5_3), (x7_3), (0), qc_, H', ⟨Nat.le_refl _⟩, ⟨by (try simp only [hl5_2]); (try simp only [hl5_3]); (with_reducible repeat (first | apply Kd.R_alloc | apply Kd.R_drewN | apply Kd.R_drew)); exact HO_5.out⟩, ⟨by (try simp only [hl5_2]); (try simp only [hl5_3]); (with_reducible repeat (first | apply Kd.R_alloc | apply Kd.R_drewN | apply Kd.R_drew)); exact HO_7.out⟩, ⟨by (try simp only [hl5_2]); (try simp only [hl5_3]); (with_reducible repeat (first | apply Kd.R_alloc | apply Kd.R_drewN | apply Kd.R_drew)); exact Kd.R_mono HO276.out (fun _ hk => ⟨hk.1.2, hk.2⟩)⟩, ⟨by (try simp only [hl5_2]); (try simp only [hl5_3]); (with_reducible repeat (first | refine blk_drewN ?_ _ | refine blk_drew ?_ | refine blk_alloc ?_ _)); exact BK260.out⟩, ⟨hB_⟩⟩
                    case round =>
                      clear H'
                      obtain ⟨x5_4, x7_4, x67_4, rfl, HA, HK4, HO_5, HO_7, HO_65, BK260, HB⟩ := hrel
                      have hl5_4 := (Kd.R_reads' HO_5.out).1
                      rw [hl5_4] at HO_5
                      (try simp only [hl5_4])
                      (try simp only [hl5_4] at BK260)
                      (try simp only [hl5_4] at HO_7)
                      (try simp only [hl5_4] at HO_65)
                      cases gk with
                      | zero => exact absurd HA.out (by simp [impl_NamesFrom.l2])
                      | succ k4 =>
                        have H := HA.out
                        clear HA
                        simp only [impl_NamesFrom.l2] at H
                        by_cases c45 : x67_4 < (y274.length : Int)
                        · rw [if_pos c45] at H
                          have c45b0 := decide_eq_true c45
                          clear c45
                          have c46 := cp_ H
                          replace H := ca_ H
                          have c46b0 := decide_eq_true c46
                          clear c46
                          have c47 := cp_ H
                          replace H := ca_ H
                          have c47b0 := decide_eq_true c47
                          clear c47
                          have c48 := cp_ H
                          replace H := ca_ H
                          have c48b0 := decide_eq_true c48
                          clear c48
                          have c49 := cp_ H
                          replace H := ca_ H
                          have c49b0 := decide_eq_true c49
                          clear c49
                          by_cases c50 : (rd x5_4 (rd y274 x67_4)) < 0
                          · rw [if_pos c50] at H
                            have c50b0 := decide_eq_true c50
                            clear c50
                            obtain ⟨y279, hy279⟩ : ∃ y_ : List Int, y_ = (x5_4.set ((rd y274 x67_4) : Int).toNat (x7_4.length : Int)) := ⟨_, rfl⟩
                            replace H : (if x7_4.length < 17592186044416 then (impl_NamesFrom.l2 k4 y279 (x7_4 ++ [rd y274 x67_4]) x8_3 y274 (y274.length : Int) (wrap64 (x67_4 + 1)) l0_0 l0_1) else (none)) = some r := by first | (rw [hy279]; exact H) | exact H
                            have Ny279 := Aside0.mk hy279
                            clear hy279
                            have c52 := cp_ H
                            replace H := ca_ H
                            have LMc52 := Aside0.mk c52
                            clear c52
                            obtain ⟨y280, hy280⟩ : ∃ y_ : List Int, y_ = (x7_4 ++ [rd y274 x67_4]) := ⟨_, rfl⟩
                            replace H : (impl_NamesFrom.l2 k4 y279 y280 x8_3 y274 (y274.length : Int) (wrap64 (x67_4 + 1)) l0_0 l0_1) = some r := by first | (rw [hy280]; exact H) | exact H
                            have Ny280 := Aside0.mk hy280
                            clear hy280
                            have H' := Aside0.mk H
                            clear H
                            have p277 : 0 ≤ (x67_4 : Int) := of_decide_eq_true qe_
                            have q277 : x67_4 < (y274.length : Int) := of_decide_eq_true qe_
                            obtain ⟨ad277, e277, hx277_0⟩ := Kd.at_int (Kd.R_reads' HO_65.out).2.2 x67_4 p277 q277
                            cases e277
                            replace p277 := eq_true p277
                            replace q277 := eq_true q277
                            have p278 : 0 ≤ ((rd y274 x67_4) : Int) := of_decide_eq_true qe_
                            have q278 : (rd y274 x67_4) < (x5_4.length : Int) := of_decide_eq_true qe_
                            obtain ⟨ad278, e278, hx278_0⟩ := Kd.at_int (Kd.R_reads' HO_5.out).2.2 (rd y274 x67_4) p278 q278
                            obtain rfl : (⟨go30, 0, none⟩ : Addr) = ad278 := (by injection e278)
                            (first | simp only [add_plain] at hx278_0 | simp only [add_at] at hx278_0 | simp only [Addr.add, Nat.zero_add] at hx278_0 | skip)
                            replace p278 := eq_true p278
                            replace q278 := eq_true q278
                            obtain ⟨Ao53, co53, eo53⟩ := Kd.R_slice HO_7.out
                            subst eo53
                            have p51 : 0 ≤ ((rd y274 x67_4) : Int) := of_decide_eq_true qe_
                            have q51 : ((rd y274 x67_4) : Int) < ((x5_4.length : Int) : Int) := of_decide_eq_true qe_
                            obtain ⟨hx51_0, hf51_0⟩ := Kd.R_celln 0 HO_5.out ((rd y274 x67_4) : Int) p51 q51
                            replace p51 := eq_true p51
                            replace q51 := eq_true q51
                            have HP54 := Kd.R_putg HO_5.out ((rd y274 x67_4) : Int) (x7_4.length : Int)
                            go_wp2_with (first | ((with_reducible refine gate_store (t := 3) (p := 80) rfl ?_); refine store_event (t := 3) (p := 80) (v := ?vo_w55) (w1 := (wr.setCell ⟨go30, ((rd y274 x67_4) : Int).toNat, none⟩ (.int .i64 (x7_4.length : Int)))) ?hg ?ho ?hn ?hr ?_; (case ho => rfl); (case hg => rfl); (case hn => rfl); (case hr => first | (go_simp; done) | (go_simp; rfl)); intro w55 hw; have hg : wr.grownBy w55 (some go30) := (by rw [hw]; exact HP54.2); have hp_ : Kd.R (Kd.int .i64) 3 w55 w.heap.size (fun k_ => some k_ ≠ (.slice Ao53 x7_4.length co53 : Value).ownBlock ∧ some k_ ≠ (.slice (some ad277) y274.length co44 : Value).ownBlock) (.slice (some ⟨go30, 0, none⟩) x5_4.length co21) y279 := (by rw [hw, Ny279.out]; exact HP54.1); clear HP54; replace HO_7 := Aside0.mk (Kd.R_after (v := (.slice (some ⟨go30, 0, none⟩) x5_4.length co21)) (v1 := (.slice (some ⟨go30, 0, none⟩) x5_4.length co21)) (ok := (fun k_ => some k_ ≠ (.slice (some ad277) y274.length co44 : Value).ownBlock)) (rw_ (Kd.R_mono HO_7.out (fun _ hk => ⟨hk.2, hk.1⟩))) hg (.inl rfl)); replace HO_65 := Aside0.mk (Kd.R_after (v := (.slice (some ⟨go30, 0, none⟩) x5_4.length co21)) (v1 := (.slice (some ⟨go30, 0, none⟩) x5_4.length co21)) (ok := (fun k_ => some k_ ≠ (.slice Ao53 x7_4.length co53 : Value).ownBlock)) (rw_ (Kd.R_mono HO_65.out (fun _ hk => ⟨hk.2, hk.1⟩))) hg (.inl rfl)); replace BK260 := Aside0.mk (blk_grown (kk_ BK260) hg (Kd.R_ne HO_5.out BK260.out (by decide))); replace HO_5 := Aside0.mk (hp_); replace HB := Aside0.mk ((by rw [hw]; exact below_set (HB.out) GB30.out : Below w.heap.size w w55)); clear hg hw hp_) | ((with_reducible refine gate_builtin (b := .append) (xs := #[.tmp 81, .tmp 83]) rfl ?_); (try (refine gate_guard (by rfl) ?_; dsimp only)); at_builtin; refine Kd.R_append (Kd.int .i64) (w0 := w) w.heap.size rfl (.tmp 81) (.tmp 83) 23 3 (.int .i64 0) 8 rfl Try.underlying23 info3 rfl (by decide) (by omega) (.slice Ao53 x7_4.length co53) x7_4 (rd y274 x67_4) [.int .i64 (rd y274 x67_4)] (fun k_ => some k_ ≠ (.slice (some ⟨go30, 0, none⟩) x5_4.length co21 : Value).ownBlock ∧ some k_ ≠ (.slice (some ad277) y274.length co44 : Value).ownBlock) (fun _ => False) rfl rfl ?aP (fun _ hk => hk.elim) ?aF ?aO ?aB ?aS ?aL ?_; (case aP => exact rfl); (case aB => exact hB_); (case aF => exact (fun k_ hk => ⟨Kd.fresh' (Kd.R_lt (rr_ HO_5)) k_ hk, Kd.fresh' (Kd.R_lt (rr_ HO_65)) k_ hk⟩)); (case aO => exact (rw_ (Kd.R_mono HO_7.out (fun _ hk => ⟨hk.2, hk.1⟩)))); (case aS => exact (below_size hB_)); (case aL => have := LMc52.out; omega); intro v281 w56 ho hb hg hat; rw [← Ny280.out] at ho; replace HO_5 := Aside0.mk (Kd.R_after (ok := (fun k_ => some k_ ≠ (.slice (some ad277) y274.length co44 : Value).ownBlock)) (rw_ (Kd.R_mono HO_5.out (fun _ hk => ⟨hk.2, hk.1⟩))) hg hat); replace HO_65 := Aside0.mk (Kd.R_after (ok := (fun k_ => some k_ ≠ (.slice (some ⟨go30, 0, none⟩) x5_4.length co21 : Value).ownBlock)) (rw_ (Kd.R_mono HO_65.out (fun _ hk => ⟨hk.2, hk.1⟩))) hg hat); replace BK260 := Aside0.mk (blk_grown (kk_ BK260) hg (Kd.R_ne HO_7.out BK260.out (by decide))); replace HB := Aside0.mk hb; have HO282 := Aside0.mk ho; clear HO_7; clear ho hb hg hat))
                            (try simp only [← hl5_4])
                            go_roundg k4
                            case measure => have := HJ2.out; have := HK2.out; have := HK3.out; have := HK4.out; omega
                            case rel => exact ⟨(y279), (y280), (wrap64 (x67_4 + 1)), qc_, H', ⟨by have := HJ2.out; have := HK2.out; have := HK3.out; have := HK4.out; omega⟩, ⟨by (try simp only [hl5_2]); (try simp only [hl5_3]); (try simp only [hl5_4]); (with_reducible repeat (first | apply Kd.R_alloc | apply Kd.R_drewN | apply Kd.R_drew)); exact Kd.R_mono HO_5.out (fun _ hk => ⟨hk.2, hk.1⟩)⟩, ⟨by (try simp only [hl5_2]); (try simp only [hl5_3]); (try simp only [hl5_4]); (with_reducible repeat (first | apply Kd.R_alloc | apply Kd.R_drewN | apply Kd.R_drew)); exact HO282.out⟩, ⟨by (try simp only [hl5_2]); (try simp only [hl5_3]); (try simp only [hl5_4]); (with_reducible repeat (first | apply Kd.R_alloc | apply Kd.R_drewN | apply Kd.R_drew)); exact HO_65.out⟩, ⟨by (try simp only [hl5_2]); (try simp only [hl5_3]); (try simp only [hl5_4]); (with_reducible repeat (first | refine blk_drewN ?_ _ | refine blk_drew ?_ | refine blk_alloc ?_ _)); exact BK260.out⟩, ⟨hB_⟩⟩
                          · rw [if_neg c50] at H
                            have c50b0 := decide_eq_false c50
                            clear c50
                            have H' := Aside0.mk H
                            clear H
                            have p277 : 0 ≤ (x67_4 : Int) := of_decide_eq_true qe_
                            have q277 : x67_4 < (y274.length : Int) := of_decide_eq_true qe_
                            obtain ⟨ad277, e277, hx277_0⟩ := Kd.at_int (Kd.R_reads' HO_65.out).2.2 x67_4 p277 q277
                            cases e277
                            replace p277 := eq_true p277
                            replace q277 := eq_true q277
                            have p278 : 0 ≤ ((rd y274 x67_4) : Int) := of_decide_eq_true qe_
                            have q278 : (rd y274 x67_4) < (x5_4.length : Int) := of_decide_eq_true qe_
                            obtain ⟨ad278, e278, hx278_0⟩ := Kd.at_int (Kd.R_reads' HO_5.out).2.2 (rd y274 x67_4) p278 q278
                            obtain rfl : (⟨go30, 0, none⟩ : Addr) = ad278 := (by injection e278)
                            (first | simp only [add_plain] at hx278_0 | simp only [add_at] at hx278_0 | simp only [Addr.add, Nat.zero_add] at hx278_0 | skip)
                            replace p278 := eq_true p278
                            replace q278 := eq_true q278
                            go_wp2
                            (try simp only [← hl5_4])
                            go_roundg k4
                            case measure => have := HJ2.out; have := HK2.out; have := HK3.out; have := HK4.out; omega
                            case rel => exact ⟨(x5_4), (x7_4), (wrap64 (x67_4 + 1)), qc_, H', ⟨by have := HJ2.out; have := HK2.out; have := HK3.out; have := HK4.out; omega⟩, ⟨by (try simp only [hl5_2]); (try simp only [hl5_3]); (try simp only [hl5_4]); (with_reducible repeat (first | apply Kd.R_alloc | apply Kd.R_drewN | apply Kd.R_drew)); exact HO_5.out⟩, ⟨by (try simp only [hl5_2]); (try simp only [hl5_3]); (try simp only [hl5_4]); (with_reducible repeat (first | apply Kd.R_alloc | apply Kd.R_drewN | apply Kd.R_drew)); exact HO_7.out⟩, ⟨by (try simp only [hl5_2]); (try simp only [hl5_3]); (try simp only [hl5_4]); (with_reducible repeat (first | apply Kd.R_alloc | apply Kd.R_drewN | apply Kd.R_drew)); exact HO_65.out⟩, ⟨by (try simp only [hl5_2]); (try simp only [hl5_3]); (try simp only [hl5_4]); (with_reducible repeat (first | refine blk_drewN ?_ _ | refine blk_drew ?_ | refine blk_alloc ?_ _)); exact BK260.out⟩, ⟨hB_⟩⟩
                        · rw [if_neg c45] at H
                          have c45b0 := decide_eq_false c45
                          (try simp only [hl5_4] at c45b0)
                          clear c45
                          have H' := Aside0.mk H
                          clear H
                          go_wp2
                          (try simp only [← hl5_3, ← hl5_4])
                          go_roundg k4
                          case measure => have := HJ2.out; have := HK2.out; have := HK3.out; have := HK4.out; omega
                          case rel => exact ⟨(x5_4), (x7_4), (wrap64 (x8_3 + 1)), qc_, H', ⟨by have := HJ2.out; have := HK2.out; have := HK3.out; have := HK4.out; omega⟩, ⟨by (try simp only [hl5_2]); (try simp only [hl5_3]); (try simp only [hl5_4]); (with_reducible repeat (first | apply Kd.R_alloc | apply Kd.R_drewN | apply Kd.R_drew)); exact Kd.R_mono HO_5.out (fun _ hk => hk.1)⟩, ⟨by (try simp only [hl5_2]); (try simp only [hl5_3]); (try simp only [hl5_4]); (with_reducible repeat (first | apply Kd.R_alloc | apply Kd.R_drewN | apply Kd.R_drew)); exact Kd.R_mono HO_7.out (fun _ hk => hk.1)⟩, ⟨by (try simp only [hl5_2]); (try simp only [hl5_3]); (try simp only [hl5_4]); (with_reducible repeat (first | refine blk_drewN ?_ _ | refine blk_drew ?_ | refine blk_alloc ?_ _)); exact BK260.out⟩, ⟨hB_⟩⟩
                  · rw [if_neg c35] at H
                    have c35b0 := decide_eq_false c35
                    clear c35
                    obtain rfl := Option.some.inj H
                    obtain ⟨Ao57, co57, eo57⟩ := Kd.R_slice HO_7.out
                    subst eo57
                    go_wp2
                    go_ret
                    exact ⟨_, qb_, (rw_ (Kd.R_mono HO_5.out (fun _ hk => trivial))), hB_⟩
end Go.Proofs.Ytcggfjpnfodbaaa.A
end
section
namespace Go.Proofs.Ytcggfjpnfodbaaa.A
open Go.RowKit Go.Proofs.YtcggfjpnfodbaaaW.PrintWords Go.Proofs.YtcggfjpnfodbaaaW.PrintLast Go.Proofs.YtcggfjpnfodbaaaW.PrintMore
attribute [local go_sem] max2_int min2_int max_two min_two max_three min_three max_four min_four
set_option linter.unusedVariables false
set_option linter.unusedSimpArgs false
def impl_namedFrom.l0 : Nat → List (S25) → Int → List Int → List Int → Option ((List (S25)))
  | 0, _, _, _, _ => none
  | k + 1, x3, x4, x284000, x284001 => (impl_CountSquares.f k x284000 x284001).bind fun t287 => (if x4 < t287 then ((impl_NamesFrom.f k x284000 x284001 x4).bind fun t288 => ((impl_RenameSurface.f k x284000 x284001 t288).bind fun bt291 => (if x3.length < 2932031007402 then (impl_namedFrom.l0 k (x3 ++ [(⟨bt291.1, bt291.2.1⟩ : S25)]) (wrap64 (x4 + 1)) x284000 x284001) else (none)))) else (some x3))
def impl_namedFrom.f (k : Nat) (l0_0 : List Int) (l0_1 : List Int) : Option ((List (S25))) := impl_namedFrom.l0 k (([] : List (S25))) 0 l0_0 l0_1
theorem impl_namedFrom.mono_l : ∀ k, (∀ y0 y1 y2 y3, LeO (impl_namedFrom.l0 k y0 y1 y2 y3) (impl_namedFrom.l0 (k + 1) y0 y1 y2 y3))
  | 0 => fun _ _ _ _ r h => by simp [impl_namedFrom.l0] at h
  | k + 1 => by
    have ih0 := impl_namedFrom.mono_l k
    · intro y0 y1 y2 y3
      unfold impl_namedFrom.l0
      repeat' first|exact ih0 _ _ _ _|exact impl_CountSquares.mono _ _ _|exact impl_NamesFrom.mono _ _ _ _|exact impl_RenameSurface.mono _ _ _ _|exact lo_|refine LeO.ite ?_ ?_|refine LeO.bind ?_ (fun _ => ?_)
theorem impl_namedFrom.mono : ∀ a0 a1 k, LeO (impl_namedFrom.f k a0 a1) (impl_namedFrom.f (k + 1) a0 a1) := by
  intro a0 a1 k
  have ih0 := impl_namedFrom.mono_l k
  unfold impl_namedFrom.f
  repeat' first|exact ih0 _ _ _ _|exact impl_CountSquares.mono _ _ _|exact impl_NamesFrom.mono _ _ _ _|exact impl_RenameSurface.mono _ _ _ _|exact lo_|refine LeO.ite ?_ ?_|refine LeO.bind ?_ (fun _ => ?_)
def impl_namedFrom.T5 : Bool × List (List Nat × List Nat) := (true, [([], []), ([], []), ([], []), ([1, 2], [1, 2]), ([0, 3, 3], [0, 3]), ([4], [4]), ([5], [5]), ([5], [5]), ([], []), ([8, 6, 4, 0, 1, 2, 3, 4, 5, 6, 8], [6, 8]), ([7, 9, 0, 1, 2, 3, 4, 5, 6, 7, 8, 9], [7])])
def impl_namedFrom.B5 : List Nat := [0, 0, 0, 6, 15, 31, 63, 63, 0, 383, 1023]
theorem impl_namedFrom.tab5 : rtab .any (opsOf Try.f75 5) = impl_namedFrom.T5 := by kernel_rfl
theorem impl_namedFrom.bits5 : waitsOk impl_namedFrom.T5.2 impl_namedFrom.B5 = true := by kernel_rfl
set_option maxHeartbeats 8000000 in
set_option maxRecDepth 100000 in
theorem impl_namedFrom.calls (k : Nat) (A0_0 : Option Addr) (c0_0 : Nat) (l0_0 : List Int) (A0_1 : Option Addr) (c0_1 : Nat) (l0_1 : List Int) (r : List (S25)) (w : World) (hr0_0 : Kd.C (Kd.int .i64) w A0_0 l0_0.length l0_0) (hc0_0 : l0_0.length ≤ c0_0) (hr0_1 : Kd.C (Kd.int .i64) w A0_1 l0_1.length l0_1) (hc0_1 : l0_1.length ≤ c0_1) (h : impl_namedFrom.f k l0_0 l0_1 = some r) :
    Calls Try.prog 75 #[.agg #[.slice A0_0 l0_0.length c0_0, .slice A0_1 l0_1.length c0_1]] w fun e w' => ∃ v0_ : Value, e = .returned (v0_) ∧ Kd.S k25 25 w' w.heap.size (fun _ => True) v0_ r ∧ Below w.heap.size w w' := by
  have hu25 := Try.underlying25
  have HR0_0 := Aside0.mk hr0_0
  have HC0_0 := Aside0.mk hc0_0
  clear hr0_0 hc0_0
  have HR0_1 := Aside0.mk hr0_1
  have HC0_1 := Aside0.mk hc0_1
  clear hr0_1 hc0_1
  have HB := Aside0.mk (Below.refl w.heap.size w)
  have H := h
  unfold impl_namedFrom.f at H
  clear h
  obtain ⟨y284, hy284⟩ : ∃ y_ : List (S25), y_ = (([] : List (S25))) := ⟨_, rfl⟩
  replace H : (impl_namedFrom.l0 k y284 0 l0_0 l0_1) = some r := by first | (rw [hy284]; exact H) | exact H
  have Ny284 := Aside0.mk hy284
  clear hy284
  have H' := Aside0.mk H
  clear H
  go_enter Try.func75, Try.ntmps75
  go_wp2_with (first | ((with_reducible refine gate_dst (N := 1) rfl ?_); refine bx_ 1 #[.slice A0_0 l0_0.length c0_0, .slice A0_1 l0_1.length c0_1] 25 ?_; intro gb283 hg w2 hbox hb; have BK283 := Aside0.mk hbox; have GW283 := gw_ w hg; have GE283 := GW283; replace HB := b1_ hb; clear hb hbox hg) | ((with_reducible refine gate_dst (N := 7) rfl ?_); refine Kd.S_lit k25 _ 25 ?hg (N := 7) ?hd (xs := ([] : List (S25))) (inner := []) (ok := fun _ => True) (okp := fun _ => True) ?hr ?hp (fun _ hk => hk) trivial (Below.refl _ _) (Nat.le_refl _) (by simp) ?_; (case hd => rfl); (case hg => rfl); (case hr => first | (go_simp; done) | (go_simp; rfl)); (case hp => exact (Reps.none _ _)); intro v285 w3 ho4 hb hg_ hnew_; clear hg_ hnew_; (first | rw [← Ny284.out] at ho4 | (simp only [Int.reduceToNat] at ho4; rw [← Ny284.out] at ho4)); have HO286 := Aside0.mk (Kd.S_lower (Kd.S_newB ho4 (kk_ BK283)) (below_size hB_)); replace BK283 := bb_ BK283 hb; replace HB := b1_ hb; clear hb ho4))
  go_loopg [3, 4] k (fun kq v3 v4 w' => ∃ (x3_1 : List (S25)) (x4_1 : Int), v4 = .int .i64 x4_1 ∧ Aside0 (impl_namedFrom.l0 kq x3_1 x4_1 l0_0 l0_1 = some r) ∧ Aside0 (kq ≤ k) ∧ Aside0 (Kd.S k25 25 w' w.heap.size (fun k_ => k_ ≠ gb283) v3 x3_1) ∧ Aside0 (w'.heap[gb283]? = some (.cells #[(.slice A0_0 l0_0.length c0_0), (.slice A0_1 l0_1.length c0_1)] 25 (0, 0))) ∧ Aside0 (Below w.heap.size w w'))
  case atStart => exact ⟨(y284), (0), qc_, H', ⟨Nat.le_refl _⟩, ⟨(sw_ (Kd.S_mono HO286.out (fun _ hk => hk.2)))⟩, ⟨(kk_ BK283)⟩, ⟨hB_⟩⟩
  case round =>
    clear H'
    obtain ⟨x3_1, x4_1, rfl, HA, HK1, HO_3, BK283, HB⟩ := hrel
    cases gk with
    | zero => exact absurd HA.out (by simp [impl_namedFrom.l0])
    | succ k1 =>
      have H := HA.out
      clear HA
      simp only [impl_namedFrom.l0] at H
      obtain ⟨t287, A5, H⟩ := bi_ H
      by_cases c6 : x4_1 < t287
      · rw [if_pos c6] at H
        have c6b0 := decide_eq_true c6
        clear c6
        obtain ⟨t288, A7, H⟩ := bi_ H
        obtain ⟨⟨t291, t294, t297⟩, A8, H⟩ := bi_ H
        try dsimp only at H
        have c9 := cp_ H
        replace H := ca_ H
        have LMc9 := Aside0.mk c9
        clear c9
        obtain ⟨y299, hy299⟩ : ∃ y_ : List (S25), y_ = (x3_1 ++ [(⟨t291, t294⟩ : S25)]) := ⟨_, rfl⟩
        replace H : (impl_namedFrom.l0 k1 y299 (wrap64 (x4_1 + 1)) l0_0 l0_1) = some r := by first | (rw [hy299]; exact H) | exact H
        have Ny299 := Aside0.mk hy299
        clear hy299
        have H' := Aside0.mk H
        clear H
        obtain ⟨hcz10_0, hcz10_1, hfz10_0, hfz10_1⟩ := c2_ BK283
        try go_wp2_with (first | ((with_reducible refine gate_callee (f := 112) rfl ?_); refine gL_ (some 10) Try.func112 #[.agg #[.slice A0_0 l0_0.length c0_0, .slice A0_1 l0_1.length c0_1]] rfl qa_ ?_; (with_reducible refine (impl_CountSquares.calls k1 _ _ l0_0 _ _ l0_1 t287 _ (cb_ HR0_0) HC0_0.out (cb_ HR0_1) HC0_1.out A5.out).mono ?_); rintro e w11 ⟨rfl, hb⟩; refine ⟨_, rfl, ?_⟩; replace HO_3 := sb_ HO_3 hb; replace BK283 := bb_ BK283 hb; replace HB := b1_ hb; clear hb))
        replace HO_3 := Aside0.mk (Kd.S_drew HO_3.out)
        replace BK283 := Aside0.mk (blk_drew BK283.out)
        replace HB := Aside0.mk (below_drew1 HB.out)
        refine start_ (n := 11) (S := fun w' => w'.cell? ⟨gb283, 0, none⟩ = some (.slice A0_0 l0_0.length c0_0) ∧ w'.cell? ⟨gb283, 1, none⟩ = some (.slice A0_1 l0_1.length c0_1)) (ds := []) (bl_ 11 0) (by kernel_rfl) rfl (by kernel_rfl) ⟨cz0_ BK283, cz1_ BK283⟩ (fun hHeld => ?_); refine with_tabW impl_namedFrom.tab5 impl_namedFrom.bits5 (fun HT_ HW_ => ?_)
        generalize w11.drew = w12 at HO_3 BK283 HB hHeld ⊢
        refine pu_ 2 (some 17) (bl_ 11 4) HT_ ?_
        refine ta_ 0 (some 15) (bl_ 11 5) HT_ HW_ hHeld ?_
        refine ta_ 1 (some 16) (bl_ 11 7) HT_ HW_ hHeld ?_
        refine join_ (σ := Value × Value × Value × Nat) 2 (bl_ 11 511) (fun s_ => [(18, s_.1), (19, .tuple #[.agg #[s_.2.1, s_.2.2.1], .bool t297]), (5, .pointer (some ⟨s_.2.2.2, 0, none⟩)), (14, .tuple #[.agg #[s_.2.1, s_.2.2.1], .bool t297]), (20, .agg #[s_.2.1, s_.2.2.1]), (21, .bool t297)]) (fun s_ w' => (w'.cell? ⟨gb283, 0, none⟩ = some (.slice A0_0 l0_0.length c0_0) ∧ w'.cell? ⟨gb283, 1, none⟩ = some (.slice A0_1 l0_1.length c0_1)) ∧ (Kd.R (Kd.int .i64) 3 w' w.heap.size (fun k_ => some k_ ≠ (s_.2.1 : Value).ownBlock ∧ some k_ ≠ (s_.2.2.1 : Value).ownBlock) s_.1 t288) ∧ (Kd.R (Kd.int .i64) 3 w' w.heap.size (fun k_ => some k_ ≠ (s_.1 : Value).ownBlock ∧ some k_ ≠ (s_.2.2.1 : Value).ownBlock) s_.2.1 t291) ∧ (Kd.R (Kd.int .i64) 3 w' w.heap.size (fun k_ => some k_ ≠ (s_.1 : Value).ownBlock ∧ some k_ ≠ (s_.2.1 : Value).ownBlock) s_.2.2.1 t294) ∧ (Kd.S k25 25 w' w.heap.size (fun k_ => some k_ ≠ (s_.1 : Value).ownBlock ∧ some k_ ≠ (s_.2.1 : Value).ownBlock ∧ some k_ ≠ (s_.2.2.1 : Value).ownBlock ∧ k_ ≠ gb283 ∧ k_ ≠ s_.2.2.2) u3 x3_1) ∧ (w'.heap[gb283]? = some (.cells #[.slice A0_0 l0_0.length c0_0, .slice A0_1 l0_1.length c0_1] 25 (0, 0))) ∧ (w'.heap[s_.2.2.2]? = some (.cells #[.slice none 0 0, .slice none 0 0] 25 (0, 0))) ∧ (w.heap.size ≤ s_.2.2.2) ∧ (w.heap.size ≤ s_.2.2.2) ∧ (gb283 ≠ s_.2.2.2) ∧ (s_.2.2.2 ≠ gb283) ∧ (Below w.heap.size w w')) ?_ ?_
        rotate_left
        · intro hCont
          refine two_ (i := 3) (j := 8) (Ni := some 18) (Nj := some 5) (bl_ 11 15) (bl_ 11 263) rfl rfl rfl rfl (two_of HT_.out (by kernel_rfl)) (by decide) (by decide) (fun K hK => ?_) (fun K hK => ?_)
          · skip
            refine gO_ Try.func114 #[.agg #[.slice A0_0 l0_0.length c0_0, .slice A0_1 l0_1.length c0_1], .int .i64 x4_1] (by rfl) rfl rfl qa_ ?_
            with_reducible refine (impl_NamesFrom.calls k1 _ _ l0_0 _ _ l0_1 x4_1 t288 _ (cb_ HR0_0) HC0_0.out (cb_ HR0_1) HC0_1.out A7.out).mono ?_
            rintro e w13 ⟨v289, rfl, ho0, hb⟩
            refine ⟨_, rfl, ?_⟩
            replace HO_3 := Aside0.mk (Kd.S_elder' (ss_ HO_3) (Kd.R_base ho0) hb)
            have HO290 := rl_ w ho0
            replace BK283 := bb_ BK283 hb
            replace HB := b1_ hb
            clear hb ho0
            obtain ⟨Ao14, co14, eo14⟩ := Kd.R_slice HO290.out
            (first | subst eo14 | (injection eo14 with f1_ f2_ f3_; have f4_ := f1_.symm; have f5_ := f3_.symm; clear f1_ f2_ f3_; subst f4_; subst f5_))
            refine hK.out _ _ ⟨cz0_ BK283, cz1_ BK283⟩ (fun hHeld => ?_)
            clear hK K
            refine no_ (some 18) ?_
            refine two_ (i := 4) (j := 8) (Ni := some 19) (Nj := some 5) (bl_ 11 31) (bl_ 11 271) rfl rfl rfl rfl (two_of HT_.out (by kernel_rfl)) (by decide) (by decide) (fun K hK => ?_) (fun K hK => ?_)
            · skip
              refine gO_ Try.func113 #[.agg #[.slice A0_0 l0_0.length c0_0, .slice A0_1 l0_1.length c0_1], .slice Ao14 t288.length co14] (by rfl) rfl rfl qa_ ?_
              with_reducible refine (impl_RenameSurface.calls k1 _ _ l0_0 _ _ l0_1 _ _ t288 t291 t294 t297 _ (cb_ HR0_0) HC0_0.out (cb_ HR0_1) HC0_1.out (cr_ HO290) ((Kd.R_reads' HO290.out).2.1) A8.out).mono ?_
              rintro e w15 ⟨v292, v295, rfl, ho0, ho1, hb⟩
              refine ⟨_, rfl, ?_⟩
              replace HO_3 := Aside0.mk (Kd.S_mono (Kd.S_told (Kd.S_told (Kd.S_old (ss_ HO_3) hb) (Kd.R_base ho0)) (Kd.R_base ho1)) (fun _ h_ => h_.1))
              have HO293 := Aside0.mk (Kd.R_lower (Kd.R_new' ho0 (Kd.R_lt (rr_ HO290))) (below_size hB_))
              have HO296 := Aside0.mk (Kd.R_lower (Kd.R_new' ho1 (Kd.R_lt (rr_ HO290))) (below_size hB_))
              replace HO290 := Aside0.mk (Kd.R_mono (Kd.R_told (Kd.R_told (Kd.R_old (rr_ HO290) hb) (Kd.R_base ho0)) (Kd.R_base ho1)) (fun _ h_ => h_.1))
              replace BK283 := bb_ BK283 hb
              replace HB := b1_ hb
              clear hb ho0 ho1
              refine hK.out _ _ ⟨cz0_ BK283, cz1_ BK283⟩ (fun hHeld => ?_)
              clear hK K
              refine no_ (some 19) ?_
              refine pu_ 5 (some 14) (bl_ 11 63) HT_ ?_
              refine pu_ 6 (some 20) (bl_ 11 127) HT_ ?_
              refine pu_ 7 (some 21) (bl_ 11 255) HT_ ?_
              refine on_ 8 (some 5) (bl_ 11 511) HT_ (fun K hK => ?_)
              refine box_step ?hg (N := 5) ?hd (cs := #[.slice none 0 0, .slice none 0 0]) (t := 25) ?hr ?_; (case hd => rfl); (case hg => rfl); (case hr => first | (go_simp; done) | (go_simp; rfl))
              intro gb298 hg w16 hbox hb
              replace HO_3 := Aside0.mk (Kd.S_below (Kd.S_elderB (ss_ HO_3) gb298 (Nat.le_of_eq hg.symm)) hb)
              replace HO290 := rb_ HO290 hb
              replace HO293 := rb_ HO293 hb
              replace HO296 := rb_ HO296 hb
              have BK298 := Aside0.mk hbox
              have GW298 := gw_ w hg
              have GE298 := GW298
              replace HB := b1_ hb
              have NB283_298 := gN_ BK283 hg
              have NB298_283 := gP_ BK283 hg
              replace BK283 := bb_ BK283 hb
              clear hb hbox hg
              refine hK.out _ _ ⟨cz0_ BK283, cz1_ BK283⟩ (fun hHeld => ?_)
              clear hK K
              refine no_ (some 5) ?_
              exact norm_ (by simp only [putAll, Act.put, List.setIfInBounds_toArray, List.set_cons_zero, List.set_cons_succ]) (hCont (.slice Ao14 t288.length co14, v292, v295, gb298) _ ⟨hHeld, (rw_ (Kd.R_mono HO290.out (fun _ hk => ⟨hk.1.2, hk.2⟩))), (rw_ (Kd.R_mono HO293.out (fun _ hk => ⟨hk.2, hk.1⟩))), (rw_ (Kd.R_mono HO296.out (fun _ hk => ⟨hk.2, hk.1⟩))), (sw_ (Kd.S_mono HO_3.out (fun _ hk => ⟨hk.1.1.1.2, ⟨hk.1.1.2, ⟨hk.1.2, ⟨hk.1.1.1.1, hk.2⟩⟩⟩⟩))), (kk_ BK283), (kk_ BK298), GW298.out, GE298.out, NB283_298.out, NB298_283.out, hB_⟩)
            · skip
              refine box_step ?hg (N := 5) ?hd (cs := #[.slice none 0 0, .slice none 0 0]) (t := 25) ?hr ?_; (case hd => rfl); (case hg => rfl); (case hr => first | (go_simp; done) | (go_simp; rfl))
              intro gb298 hg w14 hbox hb
              replace HO_3 := Aside0.mk (Kd.S_below (Kd.S_elderB (ss_ HO_3) gb298 (Nat.le_of_eq hg.symm)) hb)
              replace HO290 := rb_ HO290 hb
              have BK298 := Aside0.mk hbox
              have GW298 := gw_ w hg
              have GE298 := GW298
              replace HB := b1_ hb
              have NB283_298 := gN_ BK283 hg
              have NB298_283 := gP_ BK283 hg
              replace BK283 := bb_ BK283 hb
              clear hb hbox hg
              obtain ⟨Ao15, co15, eo15⟩ := Kd.R_slice HO290.out
              (first | subst eo15 | (injection eo15 with f1_ f2_ f3_; have f4_ := f1_.symm; have f5_ := f3_.symm; clear f1_ f2_ f3_; subst f4_; subst f5_))
              refine hK.out _ _ ⟨cz0_ BK283, cz1_ BK283⟩ (fun hHeld => ?_)
              clear hK K
              refine no_ (some 5) ?_
              refine on_ 4 (some 19) (bl_ 11 287) HT_ (fun K hK => ?_)
              refine gO_ Try.func113 #[.agg #[.slice A0_0 l0_0.length c0_0, .slice A0_1 l0_1.length c0_1], .slice Ao15 t288.length co15] (by rfl) rfl rfl qa_ ?_
              with_reducible refine (impl_RenameSurface.calls k1 _ _ l0_0 _ _ l0_1 _ _ t288 t291 t294 t297 _ (cb_ HR0_0) HC0_0.out (cb_ HR0_1) HC0_1.out (cr_ HO290) ((Kd.R_reads' HO290.out).2.1) A8.out).mono ?_
              rintro e w16 ⟨v292, v295, rfl, ho0, ho1, hb⟩
              refine ⟨_, rfl, ?_⟩
              replace HO_3 := Aside0.mk (Kd.S_mono (Kd.S_told (Kd.S_told (Kd.S_old (ss_ HO_3) hb) (Kd.R_base ho0)) (Kd.R_base ho1)) (fun _ h_ => h_.1))
              have HO293 := Aside0.mk (Kd.R_lower (Kd.R_new' ho0 (Kd.R_lt (rr_ HO290))) (below_size hB_))
              have HO296 := Aside0.mk (Kd.R_lower (Kd.R_new' ho1 (Kd.R_lt (rr_ HO290))) (below_size hB_))
              replace HO290 := Aside0.mk (Kd.R_mono (Kd.R_told (Kd.R_told (Kd.R_old (rr_ HO290) hb) (Kd.R_base ho0)) (Kd.R_base ho1)) (fun _ h_ => h_.1))
              replace BK283 := bb_ BK283 hb
              replace BK298 := bb_ BK298 hb
              replace HB := b1_ hb
              clear hb ho0 ho1
              refine hK.out _ _ ⟨cz0_ BK283, cz1_ BK283⟩ (fun hHeld => ?_)
              clear hK K
              refine no_ (some 19) ?_
              refine pu_ 5 (some 14) (bl_ 11 319) HT_ ?_
              refine pu_ 6 (some 20) (bl_ 11 383) HT_ ?_
              refine pu_ 7 (some 21) (bl_ 11 511) HT_ ?_
              exact norm_ (by simp only [putAll, Act.put, List.setIfInBounds_toArray, List.set_cons_zero, List.set_cons_succ]) (hCont (.slice Ao15 t288.length co15, v292, v295, gb298) _ ⟨hHeld, (rw_ (Kd.R_mono HO290.out (fun _ hk => ⟨hk.1.2, hk.2⟩))), (rw_ (Kd.R_mono HO293.out (fun _ hk => ⟨hk.2, hk.1⟩))), (rw_ (Kd.R_mono HO296.out (fun _ hk => ⟨hk.2, hk.1⟩))), (sw_ (Kd.S_mono HO_3.out (fun _ hk => ⟨hk.1.1.1.2, ⟨hk.1.2, ⟨hk.2, ⟨hk.1.1.1.1, hk.1.1.2⟩⟩⟩⟩))), (kk_ BK283), (kk_ BK298), GW298.out, GE298.out, NB283_298.out, NB298_283.out, hB_⟩)
          · skip
            refine box_step ?hg (N := 5) ?hd (cs := #[.slice none 0 0, .slice none 0 0]) (t := 25) ?hr ?_; (case hd => rfl); (case hg => rfl); (case hr => first | (go_simp; done) | (go_simp; rfl))
            intro gb298 hg w13 hbox hb
            replace HO_3 := Aside0.mk (Kd.S_below (Kd.S_elderB (ss_ HO_3) gb298 (Nat.le_of_eq hg.symm)) hb)
            have BK298 := Aside0.mk hbox
            have GW298 := gw_ w hg
            have GE298 := GW298
            replace HB := b1_ hb
            have NB283_298 := gN_ BK283 hg
            have NB298_283 := gP_ BK283 hg
            replace BK283 := bb_ BK283 hb
            clear hb hbox hg
            refine hK.out _ _ ⟨cz0_ BK283, cz1_ BK283⟩ (fun hHeld => ?_)
            clear hK K
            refine no_ (some 5) ?_
            refine on_ 3 (some 18) (bl_ 11 271) HT_ (fun K hK => ?_)
            refine gO_ Try.func114 #[.agg #[.slice A0_0 l0_0.length c0_0, .slice A0_1 l0_1.length c0_1], .int .i64 x4_1] (by rfl) rfl rfl qa_ ?_
            with_reducible refine (impl_NamesFrom.calls k1 _ _ l0_0 _ _ l0_1 x4_1 t288 _ (cb_ HR0_0) HC0_0.out (cb_ HR0_1) HC0_1.out A7.out).mono ?_
            rintro e w14 ⟨v289, rfl, ho0, hb⟩
            refine ⟨_, rfl, ?_⟩
            replace HO_3 := Aside0.mk (Kd.S_elder' (ss_ HO_3) (Kd.R_base ho0) hb)
            have HO290 := rl_ w ho0
            replace BK283 := bb_ BK283 hb
            replace BK298 := bb_ BK298 hb
            replace HB := b1_ hb
            clear hb ho0
            obtain ⟨Ao15, co15, eo15⟩ := Kd.R_slice HO290.out
            (first | subst eo15 | (injection eo15 with f1_ f2_ f3_; have f4_ := f1_.symm; have f5_ := f3_.symm; clear f1_ f2_ f3_; subst f4_; subst f5_))
            refine hK.out _ _ ⟨cz0_ BK283, cz1_ BK283⟩ (fun hHeld => ?_)
            clear hK K
            refine no_ (some 18) ?_
            refine on_ 4 (some 19) (bl_ 11 287) HT_ (fun K hK => ?_)
            refine gO_ Try.func113 #[.agg #[.slice A0_0 l0_0.length c0_0, .slice A0_1 l0_1.length c0_1], .slice Ao15 t288.length co15] (by rfl) rfl rfl qa_ ?_
            with_reducible refine (impl_RenameSurface.calls k1 _ _ l0_0 _ _ l0_1 _ _ t288 t291 t294 t297 _ (cb_ HR0_0) HC0_0.out (cb_ HR0_1) HC0_1.out (cr_ HO290) ((Kd.R_reads' HO290.out).2.1) A8.out).mono ?_
            rintro e w16 ⟨v292, v295, rfl, ho0, ho1, hb⟩
            refine ⟨_, rfl, ?_⟩
            replace HO_3 := Aside0.mk (Kd.S_mono (Kd.S_told (Kd.S_told (Kd.S_old (ss_ HO_3) hb) (Kd.R_base ho0)) (Kd.R_base ho1)) (fun _ h_ => h_.1))
            have HO293 := Aside0.mk (Kd.R_lower (Kd.R_new' ho0 (Kd.R_lt (rr_ HO290))) (below_size hB_))
            have HO296 := Aside0.mk (Kd.R_lower (Kd.R_new' ho1 (Kd.R_lt (rr_ HO290))) (below_size hB_))
            replace HO290 := Aside0.mk (Kd.R_mono (Kd.R_told (Kd.R_told (Kd.R_old (rr_ HO290) hb) (Kd.R_base ho0)) (Kd.R_base ho1)) (fun _ h_ => h_.1))
            replace BK283 := bb_ BK283 hb
            replace BK298 := bb_ BK298 hb
            replace HB := b1_ hb
            clear hb ho0 ho1
            refine hK.out _ _ ⟨cz0_ BK283, cz1_ BK283⟩ (fun hHeld => ?_)
            clear hK K
            refine no_ (some 19) ?_
            refine pu_ 5 (some 14) (bl_ 11 319) HT_ ?_
            refine pu_ 6 (some 20) (bl_ 11 383) HT_ ?_
            refine pu_ 7 (some 21) (bl_ 11 511) HT_ ?_
            exact norm_ (by simp only [putAll, Act.put, List.setIfInBounds_toArray, List.set_cons_zero, List.set_cons_succ]) (hCont (.slice Ao15 t288.length co15, v292, v295, gb298) _ ⟨hHeld, (rw_ (Kd.R_mono HO290.out (fun _ hk => ⟨hk.1.2, hk.2⟩))), (rw_ (Kd.R_mono HO293.out (fun _ hk => ⟨hk.2, hk.1⟩))), (rw_ (Kd.R_mono HO296.out (fun _ hk => ⟨hk.2, hk.1⟩))), (sw_ (Kd.S_mono HO_3.out (fun _ hk => ⟨hk.1.1.2, ⟨hk.1.2, ⟨hk.2, ⟨hk.1.1.1.1, hk.1.1.1.2⟩⟩⟩⟩))), (kk_ BK283), (kk_ BK298), GW298.out, GE298.out, NB283_298.out, NB298_283.out, hB_⟩)
        rintro ⟨v289, v292, v295, gb298⟩ w17 ⟨hS_, h0_, h1_, h2_, h3_, h4_, h5_, h6_, h7_, h8_, h9_, h10_⟩
        have n0_ : Aside0 (Kd.R (Kd.int .i64) 3 w17 w.heap.size (fun k_ => some k_ ≠ (v292 : Value).ownBlock ∧ some k_ ≠ (v295 : Value).ownBlock) v289 t288) := ⟨h0_⟩
        have n1_ : Aside0 (Kd.R (Kd.int .i64) 3 w17 w.heap.size (fun k_ => some k_ ≠ (v289 : Value).ownBlock ∧ some k_ ≠ (v295 : Value).ownBlock) v292 t291) := ⟨h1_⟩
        have n2_ : Aside0 (Kd.R (Kd.int .i64) 3 w17 w.heap.size (fun k_ => some k_ ≠ (v289 : Value).ownBlock ∧ some k_ ≠ (v292 : Value).ownBlock) v295 t294) := ⟨h2_⟩
        have n3_ : Aside0 (Kd.S k25 25 w17 w.heap.size (fun k_ => some k_ ≠ (v289 : Value).ownBlock ∧ some k_ ≠ (v292 : Value).ownBlock ∧ some k_ ≠ (v295 : Value).ownBlock ∧ k_ ≠ gb283 ∧ k_ ≠ gb298) u3 x3_1) := ⟨h3_⟩
        have n4_ : Aside0 (w17.heap[gb283]? = some (.cells #[.slice A0_0 l0_0.length c0_0, .slice A0_1 l0_1.length c0_1] 25 (0, 0))) := ⟨h4_⟩
        have n5_ : Aside0 (w17.heap[gb298]? = some (.cells #[.slice none 0 0, .slice none 0 0] 25 (0, 0))) := ⟨h5_⟩
        have n6_ : Aside0 (w.heap.size ≤ gb298) := ⟨h6_⟩
        have n7_ : Aside0 (w.heap.size ≤ gb298) := ⟨h7_⟩
        have n8_ : Aside0 (gb283 ≠ gb298) := ⟨h8_⟩
        have n9_ : Aside0 (gb298 ≠ gb283) := ⟨h9_⟩
        have n10_ : Aside0 (Below w.heap.size w w17) := ⟨h10_⟩
        clear HO_3
        clear BK283
        clear HB
        clear h0_ h1_ h2_ h3_ h4_ h5_ h6_ h7_ h8_ h9_ h10_
        have HO290 := n0_
        have HO293 := n1_
        have HO296 := n2_
        have HO_3 := n3_
        have BK283 := n4_
        have BK298 := n5_
        have GW298 := n6_
        have GE298 := n7_
        have NB283_298 := n8_
        have NB298_283 := n9_
        have HB := n10_
        clear n0_ n1_ n2_ n3_ n4_ n5_ n6_ n7_ n8_ n9_ n10_
        have hHeld : w17.cell? ⟨gb283, 0, none⟩ = some (.slice A0_0 l0_0.length c0_0) ∧ w17.cell? ⟨gb283, 1, none⟩ = some (.slice A0_1 l0_1.length c0_1) := hS_
        obtain ⟨Ao18, co18, eo18⟩ := Kd.R_slice HO293.out
        (first | subst eo18 | (injection eo18 with f1_ f2_ f3_; have f4_ := f1_.symm; have f5_ := f3_.symm; clear f1_ f2_ f3_; subst f4_; subst f5_))
        obtain ⟨Ao20, co20, eo20⟩ := Kd.R_slice HO296.out
        (first | subst eo20 | (injection eo20 with f1_ f2_ f3_; have f4_ := f1_.symm; have f5_ := f3_.symm; clear f1_ f2_ f3_; subst f4_; subst f5_))
        refine norm_ (a' := ?_) ?_ ?_
        rotate_left
        · simp only [putAll, Act.put, List.setIfInBounds_toArray, List.set_cons_zero, List.set_cons_succ]
          rfl
        refine on_ 9 (none) (bl_ 11 1023) HT_ (fun K hK => ?_)
        have hs19 : w17.cell? ⟨gb298, 0, none⟩ = some (.slice none 0 0) := cz0_ BK298
        have hfs19 := blk_frozen BK298.out 0
        have hns19_0 := NB283_298.out
        have hms19_0 := NB298_283.out
        have hs21 : w17.cell? ⟨gb298, 1, none⟩ = some (.slice none 0 0) := cz1_ BK298
        have hfs21 := blk_frozen BK298.out 1
        have hns21_0 := NB283_298.out
        have hms21_0 := NB298_283.out
        refine skip_ (w1 := ?_) (by rfl) rfl ?_ ?_
        rotate_left
        · go_simp
          rfl
        refine hK.out _ _ ⟨((cell_far (p := ⟨gb298, _, none⟩) NB283_298.out _).trans (((cell_far (p := ⟨gb298, _, none⟩) NB283_298.out _).trans (hHeld.1)))), ((cell_far (p := ⟨gb298, _, none⟩) NB283_298.out _).trans (((cell_far (p := ⟨gb298, _, none⟩) NB283_298.out _).trans (hHeld.2))))⟩ (fun hHeld => ?_)
        clear hK K
        refine pu_ 10 (some 6) (bl_ 11 2047) HT_ ?_
        refine done_ (done_of HT_.out (by kernel_rfl)) ?_
        have n0_ : Aside0 (Kd.S k25 25 ((w17.setCell ⟨gb298, 0, none⟩ (.slice Ao18 t291.length co18)).setCell ⟨gb298, 1, none⟩ (.slice Ao20 t294.length co20)) w.heap.size (fun k_ => some k_ ≠ (v289 : Value).ownBlock ∧ some k_ ≠ (.slice Ao18 t291.length co18 : Value).ownBlock ∧ some k_ ≠ (.slice Ao20 t294.length co20 : Value).ownBlock ∧ k_ ≠ gb283 ∧ k_ ≠ gb298) u3 x3_1) := ⟨(sw_ (Kd.S_mono (Kd.S_far (p := ⟨gb298, 1, none⟩) (Kd.S_far (p := ⟨gb298, 0, none⟩) (Kd.S_mono HO_3.out (fun k_ hk => (⟨hk, hk.2.2.2.2⟩ : _ ∧ k_ ≠ gb298))) (fun _ hk => hk.2) (.slice Ao18 t291.length co18)) (fun _ hk => hk.2) (.slice Ao20 t294.length co20)) (fun _ hk => ⟨hk.1.1, ⟨hk.1.2.1, ⟨hk.1.2.2.1, ⟨hk.1.2.2.2.1, hk.1.2.2.2.2⟩⟩⟩⟩)))⟩
        have n1_ : Aside0 (Kd.R (Kd.int .i64) 3 ((w17.setCell ⟨gb298, 0, none⟩ (.slice Ao18 t291.length co18)).setCell ⟨gb298, 1, none⟩ (.slice Ao20 t294.length co20)) w.heap.size (fun k_ => some k_ ≠ (.slice Ao18 t291.length co18 : Value).ownBlock ∧ some k_ ≠ (.slice Ao20 t294.length co20 : Value).ownBlock) v289 t288) := ⟨(rw_ (Kd.R_mono (Kd.R_far (p := ⟨gb298, 1, none⟩) (Kd.R_far (p := ⟨gb298, 0, none⟩) (Kd.R_types HO290.out BK298.out (by decide)) (fun _ hk => hk.2) (.slice Ao18 t291.length co18)) (fun _ hk => hk.2) (.slice Ao20 t294.length co20)) (fun _ hk => ⟨hk.1.1, hk.1.2⟩)))⟩
        have n2_ : Aside0 (Kd.R (Kd.int .i64) 3 ((w17.setCell ⟨gb298, 0, none⟩ (.slice Ao18 t291.length co18)).setCell ⟨gb298, 1, none⟩ (.slice Ao20 t294.length co20)) w.heap.size (fun k_ => some k_ ≠ (v289 : Value).ownBlock ∧ some k_ ≠ (.slice Ao20 t294.length co20 : Value).ownBlock) (.slice Ao18 t291.length co18) t291) := ⟨(rw_ (Kd.R_mono (Kd.R_far (p := ⟨gb298, 1, none⟩) (Kd.R_far (p := ⟨gb298, 0, none⟩) (Kd.R_types HO293.out BK298.out (by decide)) (fun _ hk => hk.2) (.slice Ao18 t291.length co18)) (fun _ hk => hk.2) (.slice Ao20 t294.length co20)) (fun _ hk => ⟨hk.1.1, hk.1.2⟩)))⟩
        have n3_ : Aside0 (Kd.R (Kd.int .i64) 3 ((w17.setCell ⟨gb298, 0, none⟩ (.slice Ao18 t291.length co18)).setCell ⟨gb298, 1, none⟩ (.slice Ao20 t294.length co20)) w.heap.size (fun k_ => some k_ ≠ (v289 : Value).ownBlock ∧ some k_ ≠ (.slice Ao18 t291.length co18 : Value).ownBlock) (.slice Ao20 t294.length co20) t294) := ⟨(rw_ (Kd.R_mono (Kd.R_far (p := ⟨gb298, 1, none⟩) (Kd.R_far (p := ⟨gb298, 0, none⟩) (Kd.R_types HO296.out BK298.out (by decide)) (fun _ hk => hk.2) (.slice Ao18 t291.length co18)) (fun _ hk => hk.2) (.slice Ao20 t294.length co20)) (fun _ hk => ⟨hk.1.1, hk.1.2⟩)))⟩
        have n4_ : Aside0 (((w17.setCell ⟨gb298, 0, none⟩ (.slice Ao18 t291.length co18)).setCell ⟨gb298, 1, none⟩ (.slice Ao20 t294.length co20)).heap[gb283]? = some (.cells #[.slice A0_0 l0_0.length c0_0, .slice A0_1 l0_1.length c0_1] 25 (0, 0))) := ⟨by (with_reducible repeat (first | refine blk_drewN ?_ _ | refine blk_drew ?_ | refine blk_alloc ?_ _)); refine blk_far ?_ NB283_298.out _; (with_reducible repeat (first | refine blk_drewN ?_ _ | refine blk_drew ?_ | refine blk_alloc ?_ _)); refine blk_far ?_ NB283_298.out _; (with_reducible repeat (first | refine blk_drewN ?_ _ | refine blk_drew ?_ | refine blk_alloc ?_ _)); exact BK283.out⟩
        have n5_ : Aside0 (((w17.setCell ⟨gb298, 0, none⟩ (.slice Ao18 t291.length co18)).setCell ⟨gb298, 1, none⟩ (.slice Ao20 t294.length co20)).heap[gb298]? = some (.cells #[.slice Ao18 t291.length co18, .slice Ao20 t294.length co20] 25 (0, 0))) := ⟨qp_⟩
        have n6_ : Aside0 (Below w.heap.size w ((w17.setCell ⟨gb298, 0, none⟩ (.slice Ao18 t291.length co18)).setCell ⟨gb298, 1, none⟩ (.slice Ao20 t294.length co20))) := ⟨hB_⟩
        skip
        generalize ((w17.setCell ⟨gb298, 0, none⟩ (.slice Ao18 t291.length co18)).setCell ⟨gb298, 1, none⟩ (.slice Ao20 t294.length co20)) = w22 at n0_ n1_ n2_ n3_ n4_ n5_ n6_ ⊢
        have HO_3 := n0_
        have HO290 := n1_
        have HO293 := n2_
        have HO296 := n3_
        have BK283 := n4_
        have BK298 := n5_
        have HB := n6_
        clear n0_ n1_ n2_ n3_ n4_ n5_ n6_
        have hnb23 := NB298_283.out
        have hnc23 := NB283_298.out
        obtain ⟨hcz24_0, hcz24_1, hfz24_0, hfz24_1⟩ := c2_ BK298
        try go_wp2_with (first | ((with_reducible refine gate_builtin (b := .append) (xs := #[.tmp 22, .tmp 24]) rfl ?_); at_builtin; refine Kd.S_append k25 (w0 := w) w.heap.size rfl (.tmp 22) (.tmp 24) 36 25 (.agg #[(.slice none 0 0), (.slice none 0 0)]) 48 rfl Try.underlying36 info25 rfl (by decide) (by omega) u3 x3_1 (⟨t291, t294⟩ : S25) [.slice Ao18 t291.length co18, .slice Ao20 t294.length co20] (fun k_ => some k_ ≠ (v289 : Value).ownBlock ∧ k_ ≠ gb283 ∧ k_ ≠ gb298) (fun k_ => some k_ = (.slice Ao18 t291.length co18 : Value).ownBlock ∨ some k_ = (.slice Ao20 t294.length co20 : Value).ownBlock) rfl rfl ?aP (fun k_ hk_ => hk_.elim (fun h_ => ((Kd.R_mono (ok' := fun k_ => ((fun k_ => some k_ ≠ (v289 : Value).ownBlock ∧ k_ ≠ gb283 ∧ k_ ≠ gb298)) k_ ∧ some k_ ≠ (u3 : Value).ownBlock) (Kd.R_types (Kd.R_types (Kd.R_apart' (HO293.out) (Kd.S_typed HO_3.out) (by decide)) BK283.out (by decide)) BK298.out (by decide)) (fun k_ hk => ⟨⟨hk.1.1.1.1, ⟨hk.1.2, hk.2⟩⟩, hk.1.1.2⟩))).1 k_ h_.symm) (fun h_ => ((Kd.R_mono (ok' := fun k_ => ((fun k_ => some k_ ≠ (v289 : Value).ownBlock ∧ k_ ≠ gb283 ∧ k_ ≠ gb298)) k_ ∧ some k_ ≠ (u3 : Value).ownBlock) (Kd.R_types (Kd.R_types (Kd.R_apart' (HO296.out) (Kd.S_typed HO_3.out) (by decide)) BK283.out (by decide)) BK298.out (by decide)) (fun k_ hk => ⟨⟨hk.1.1.1.1, ⟨hk.1.2, hk.2⟩⟩, hk.1.1.2⟩))).1 k_ h_.symm)) ?aF ?aO ?aB ?aS ?aL ?_; (case aP => exact k25_mkM _ _ _ (⟨t291, t294⟩ : S25) (Kd.R_mono (Kd.R_tight rfl (Kd.R_mono (ok' := fun k_ => ((fun k_ => some k_ ≠ (v289 : Value).ownBlock ∧ k_ ≠ gb283 ∧ k_ ≠ gb298)) k_ ∧ some k_ ≠ (u3 : Value).ownBlock) (Kd.R_types (Kd.R_types (Kd.R_apart' (HO293.out) (Kd.S_typed HO_3.out) (by decide)) BK283.out (by decide)) BK298.out (by decide)) (fun k_ hk => ⟨⟨hk.1.1.1.1, ⟨hk.1.2, hk.2⟩⟩, hk.1.1.2⟩))) (fun _ h_ => Or.inl h_)) (Kd.R_mono (Kd.R_tight rfl (Kd.R_mono (ok' := fun k_ => ((fun k_ => some k_ ≠ (v289 : Value).ownBlock ∧ k_ ≠ gb283 ∧ k_ ≠ gb298)) k_ ∧ some k_ ≠ (u3 : Value).ownBlock) (Kd.R_types (Kd.R_types (Kd.R_apart' (HO296.out) (Kd.S_typed HO_3.out) (by decide)) BK283.out (by decide)) BK298.out (by decide)) (fun k_ hk => ⟨⟨hk.1.1.1.1, ⟨hk.1.2, hk.2⟩⟩, hk.1.1.2⟩))) (fun _ h_ => Or.inr (h_))) (fun k_ h_ e_ => (HO293.out.1 k_ h_).2 e_.symm)); (case aB => exact hB_); (case aF => exact (fun k_ hk => ⟨Kd.fresh' (Kd.R_lt (rr_ HO290)) k_ hk, Kd.freshB (kk_ BK283) k_ hk, Kd.freshB (kk_ BK298) k_ hk⟩)); (case aO => exact (sw_ (Kd.S_mono HO_3.out (fun k_ hk => ⟨⟨hk.1, ⟨hk.2.2.2.1, hk.2.2.2.2⟩⟩, fun e_ => e_.elim (fun h_ => hk.2.1 h_) (fun h_ => hk.2.2.1 h_)⟩)))); (case aS => exact (below_size hB_)); (case aL => have := LMc9.out; omega); intro v300 w25 ho hb hg hat; rw [← Ny299.out] at ho; replace BK283 := Aside0.mk (blk_grown (kk_ BK283) hg (Kd.S_away HO_3.out (fun _ hk => hk.2.2.2.1))); replace HO290 := Aside0.mk (Kd.R_over' (rr_ HO290) (Kd.S_typed (ss_ HO_3)) (by decide) hg); replace BK298 := Aside0.mk (blk_grown (kk_ BK298) hg (Kd.S_away HO_3.out (fun _ hk => hk.2.2.2.2))); replace HB := Aside0.mk hb; have HO301 := Aside0.mk ho; clear HO_3 HO293 HO296; clear ho hb hg hat))
        go_roundg k1
        case measure => have := HK1.out; omega
        case rel => exact ⟨(y299), (wrap64 (x4_1 + 1)), qc_, H', ⟨by have := HK1.out; omega⟩, ⟨(sw_ (Kd.S_mono HO301.out (fun _ hk => hk.2.1)))⟩, ⟨(kk_ BK283)⟩, ⟨hB_⟩⟩
      · rw [if_neg c6] at H
        have c6b0 := decide_eq_false c6
        clear c6
        obtain rfl := Option.some.inj H
        obtain ⟨hcz26_0, hcz26_1, hfz26_0, hfz26_1⟩ := c2_ BK283
        go_wp2_with (first | ((with_reducible refine gate_callee (f := 112) rfl ?_); refine gL_ (some 10) Try.func112 #[.agg #[.slice A0_0 l0_0.length c0_0, .slice A0_1 l0_1.length c0_1]] rfl qa_ ?_; (with_reducible refine (impl_CountSquares.calls k1 _ _ l0_0 _ _ l0_1 t287 _ (cb_ HR0_0) HC0_0.out (cb_ HR0_1) HC0_1.out A5.out).mono ?_); rintro e w27 ⟨rfl, hb⟩; refine ⟨_, rfl, ?_⟩; replace HO_3 := sb_ HO_3 hb; replace BK283 := bb_ BK283 hb; replace HB := b1_ hb; clear hb))
        go_ret
        exact ⟨_, qb_, (sw_ (Kd.S_mono HO_3.out (fun _ hk => trivial))), hB_⟩
end Go.Proofs.Ytcggfjpnfodbaaa.A
end
section
namespace Go.Proofs.Ytcggfjpnfodbaaa.A
open Go.RowKit Go.Proofs.YtcggfjpnfodbaaaW.PrintWords Go.Proofs.YtcggfjpnfodbaaaW.PrintLast Go.Proofs.YtcggfjpnfodbaaaW.PrintMore
attribute [local go_sem] max2_int min2_int max_two min_two max_three min_three max_four min_four
set_option linter.unusedVariables false
set_option linter.unusedSimpArgs false
def cmp_isNaN_int.f (a0 : Int) : Option (Bool) := some (a0 != a0)
set_option maxHeartbeats 8000000 in
set_option maxRecDepth 100000 in
theorem cmp_isNaN_int.calls (a0 : Int) (r : Bool) (w : World) (h : cmp_isNaN_int.f a0 = some r) :
    Calls Try.prog 162 #[.int .i64 a0] w fun e w' => e = .returned (.bool r) ∧ Drawn0 w w' := by
  have H := h
  unfold cmp_isNaN_int.f at H
  clear h
  obtain rfl := Option.some.inj H
  go_enter Try.func162, Try.ntmps162
  go_wp2
  go_ret
  exact ⟨qc_, by repeat (first | exact Drawn0.refl _ | apply Drawn0.step)⟩
end Go.Proofs.Ytcggfjpnfodbaaa.A
end
section
namespace Go.Proofs.Ytcggfjpnfodbaaa.A
open Go.RowKit Go.Proofs.YtcggfjpnfodbaaaW.PrintWords Go.Proofs.YtcggfjpnfodbaaaW.PrintLast Go.Proofs.YtcggfjpnfodbaaaW.PrintMore
attribute [local go_sem] max2_int min2_int max_two min_two max_three min_three max_four min_four
set_option linter.unusedVariables false
set_option linter.unusedSimpArgs false
def cmp_Compare_int.f (a0 : Int) (a1 : Int) : Option (Int) := (cmp_isNaN_int.f a0).bind fun t302 => ((cmp_isNaN_int.f a1).bind fun t303 => (if t302 = true then (if t303 = true then (some 0) else (some (-1))) else (if t303 = true then (some 1) else (if a0 < a1 then (some (-1)) else (if a0 > a1 then (some 1) else (some 0))))))
set_option maxHeartbeats 8000000 in
set_option maxRecDepth 100000 in
theorem cmp_Compare_int.calls (a0 : Int) (a1 : Int) (r : Int) (w : World) (h : cmp_Compare_int.f a0 a1 = some r) :
    Calls Try.prog 145 #[.int .i64 a0, .int .i64 a1] w fun e w' => e = .returned (.int .i64 r) ∧ Drawn0 w w' := by
  have H := h
  unfold cmp_Compare_int.f at H
  clear h
  obtain ⟨t302, A3, H⟩ := bi_ H
  obtain ⟨t303, A4, H⟩ := bi_ H
  by_cases c5 : t302 = true
  · subst c5
    rw [if_pos rfl] at H
    by_cases c6 : t303 = true
    · subst c6
      rw [if_pos rfl] at H
      obtain rfl := Option.some.inj H
      go_enter Try.func145, Try.ntmps145
      go_wp2_with (first | ((with_reducible refine gate_callee (f := 162) rfl ?_); refine gL_ (some 8) Try.func162 #[.int .i64 a0] rfl qa_ ?_; (with_reducible refine (cmp_isNaN_int.calls a0 true _ A3.out).mono ?_); rintro e w' ⟨rfl, ⟨nd, rfl⟩⟩; refine ⟨_, rfl, ?_⟩) | ((with_reducible refine gate_callee (f := 162) rfl ?_); refine gL_ (some 10) Try.func162 #[.int .i64 a1] rfl qa_ ?_; (with_reducible refine (cmp_isNaN_int.calls a1 true _ A4.out).mono ?_); rintro e w' ⟨rfl, ⟨nd, rfl⟩⟩; refine ⟨_, rfl, ?_⟩))
      go_ret
      exact ⟨qc_, by repeat (first | exact Drawn0.refl _ | apply Drawn0.step)⟩
    · replace c6 := Bool.eq_false_iff.mpr c6
      subst c6
      have H1 : (some (-1)) = some r := by rw [if_neg (show ¬ (false = true) by decide)] at H; exact H
      clear H
      have H := H1
      clear H1
      obtain rfl := Option.some.inj H
      go_enter Try.func145, Try.ntmps145
      go_wp2_with (first | ((with_reducible refine gate_callee (f := 162) rfl ?_); refine gL_ (some 8) Try.func162 #[.int .i64 a0] rfl qa_ ?_; (with_reducible refine (cmp_isNaN_int.calls a0 true _ A3.out).mono ?_); rintro e w' ⟨rfl, ⟨nd, rfl⟩⟩; refine ⟨_, rfl, ?_⟩) | ((with_reducible refine gate_callee (f := 162) rfl ?_); refine gL_ (some 10) Try.func162 #[.int .i64 a1] rfl qa_ ?_; (with_reducible refine (cmp_isNaN_int.calls a1 false _ A4.out).mono ?_); rintro e w' ⟨rfl, ⟨nd, rfl⟩⟩; refine ⟨_, rfl, ?_⟩))
      go_ret
      exact ⟨qc_, by repeat (first | exact Drawn0.refl _ | apply Drawn0.step)⟩
  · replace c5 := Bool.eq_false_iff.mpr c5
    subst c5
    have H1 : (if t303 = true then (some 1) else (if a0 < a1 then (some (-1)) else (if a0 > a1 then (some 1) else (some 0)))) = some r := by rw [if_neg (show ¬ (false = true) by decide)] at H; exact H
    clear H
    have H := H1
    clear H1
    by_cases c7 : t303 = true
    · subst c7
      rw [if_pos rfl] at H
      obtain rfl := Option.some.inj H
      go_enter Try.func145, Try.ntmps145
      go_wp2_with (first | ((with_reducible refine gate_callee (f := 162) rfl ?_); refine gL_ (some 8) Try.func162 #[.int .i64 a0] rfl qa_ ?_; (with_reducible refine (cmp_isNaN_int.calls a0 false _ A3.out).mono ?_); rintro e w' ⟨rfl, ⟨nd, rfl⟩⟩; refine ⟨_, rfl, ?_⟩) | ((with_reducible refine gate_callee (f := 162) rfl ?_); refine gL_ (some 10) Try.func162 #[.int .i64 a1] rfl qa_ ?_; (with_reducible refine (cmp_isNaN_int.calls a1 true _ A4.out).mono ?_); rintro e w' ⟨rfl, ⟨nd, rfl⟩⟩; refine ⟨_, rfl, ?_⟩))
      go_ret
      exact ⟨qc_, by repeat (first | exact Drawn0.refl _ | apply Drawn0.step)⟩
    · replace c7 := Bool.eq_false_iff.mpr c7
      subst c7
      have H1 : (if a0 < a1 then (some (-1)) else (if a0 > a1 then (some 1) else (some 0))) = some r := by rw [if_neg (show ¬ (false = true) by decide)] at H; exact H
      clear H
      have H := H1
      clear H1
      by_cases c8 : a0 < a1
      · rw [if_pos c8] at H
        have c8b0 := decide_eq_true c8
        clear c8
        obtain rfl := Option.some.inj H
        go_enter Try.func145, Try.ntmps145
        go_wp2_with (first | ((with_reducible refine gate_callee (f := 162) rfl ?_); refine gL_ (some 8) Try.func162 #[.int .i64 a0] rfl qa_ ?_; (with_reducible refine (cmp_isNaN_int.calls a0 false _ A3.out).mono ?_); rintro e w' ⟨rfl, ⟨nd, rfl⟩⟩; refine ⟨_, rfl, ?_⟩) | ((with_reducible refine gate_callee (f := 162) rfl ?_); refine gL_ (some 10) Try.func162 #[.int .i64 a1] rfl qa_ ?_; (with_reducible refine (cmp_isNaN_int.calls a1 false _ A4.out).mono ?_); rintro e w' ⟨rfl, ⟨nd, rfl⟩⟩; refine ⟨_, rfl, ?_⟩))
        go_ret
        exact ⟨qc_, by repeat (first | exact Drawn0.refl _ | apply Drawn0.step)⟩
      · rw [if_neg c8] at H
        have c8b0 := decide_eq_false c8
        clear c8
        by_cases c9 : a0 > a1
        · rw [if_pos c9] at H
          have c9b0 : decide (a1 < a0) = true := decide_eq_true c9
          clear c9
          obtain rfl := Option.some.inj H
          go_enter Try.func145, Try.ntmps145
          go_wp2_with (first | ((with_reducible refine gate_callee (f := 162) rfl ?_); refine gL_ (some 8) Try.func162 #[.int .i64 a0] rfl qa_ ?_; (with_reducible refine (cmp_isNaN_int.calls a0 false _ A3.out).mono ?_); rintro e w' ⟨rfl, ⟨nd, rfl⟩⟩; refine ⟨_, rfl, ?_⟩) | ((with_reducible refine gate_callee (f := 162) rfl ?_); refine gL_ (some 10) Try.func162 #[.int .i64 a1] rfl qa_ ?_; (with_reducible refine (cmp_isNaN_int.calls a1 false _ A4.out).mono ?_); rintro e w' ⟨rfl, ⟨nd, rfl⟩⟩; refine ⟨_, rfl, ?_⟩))
          go_ret
          exact ⟨qc_, by repeat (first | exact Drawn0.refl _ | apply Drawn0.step)⟩
        · rw [if_neg c9] at H
          have c9b0 : decide (a1 < a0) = false := decide_eq_false c9
          clear c9
          obtain rfl := Option.some.inj H
          go_enter Try.func145, Try.ntmps145
          go_wp2_with (first | ((with_reducible refine gate_callee (f := 162) rfl ?_); refine gL_ (some 8) Try.func162 #[.int .i64 a0] rfl qa_ ?_; (with_reducible refine (cmp_isNaN_int.calls a0 false _ A3.out).mono ?_); rintro e w' ⟨rfl, ⟨nd, rfl⟩⟩; refine ⟨_, rfl, ?_⟩) | ((with_reducible refine gate_callee (f := 162) rfl ?_); refine gL_ (some 10) Try.func162 #[.int .i64 a1] rfl qa_ ?_; (with_reducible refine (cmp_isNaN_int.calls a1 false _ A4.out).mono ?_); rintro e w' ⟨rfl, ⟨nd, rfl⟩⟩; refine ⟨_, rfl, ?_⟩))
          go_ret
          exact ⟨qc_, by repeat (first | exact Drawn0.refl _ | apply Drawn0.step)⟩
end Go.Proofs.Ytcggfjpnfodbaaa.A
end
section
namespace Go.Proofs.Ytcggfjpnfodbaaa.A
open Go.RowKit Go.Proofs.YtcggfjpnfodbaaaW.PrintWords Go.Proofs.YtcggfjpnfodbaaaW.PrintLast Go.Proofs.YtcggfjpnfodbaaaW.PrintMore
attribute [local go_sem] max2_int min2_int max_two min_two max_three min_three max_four min_four
set_option linter.unusedVariables false
set_option linter.unusedSimpArgs false
def slices_Compare_int_int.l0 : Nat → List Int → List Int → List Int → Int → Int → Option (Int)
  | 0, _, _, _, _, _ => none
  | k + 1, x0, x1, x9, x10, x11 => if x11 < x10 then (if 0 ≤ x11 then (if x11 < (x9.length : Int) then (if x11 ≥ (x1.length : Int) then (some 1) else (if x11 < (x1.length : Int) then ((cmp_Compare_int.f (rd x9 x11) (rd x1 x11)).bind fun t306 => (if t306 = 0 then (slices_Compare_int_int.l0 k x0 x1 x9 x10 (wrap64 (x11 + 1))) else (some t306))) else (none))) else (none)) else (none)) else (if (x0.length : Int) < (x1.length : Int) then (some (-1)) else (some 0))
def slices_Compare_int_int.f (k : Nat) (l0 : List Int) (l1 : List Int) : Option (Int) := slices_Compare_int_int.l0 k l0 l1 l0 (l0.length : Int) 0
theorem slices_Compare_int_int.mono_l : ∀ k, (∀ y0 y1 y2 y3 y4, LeO (slices_Compare_int_int.l0 k y0 y1 y2 y3 y4) (slices_Compare_int_int.l0 (k + 1) y0 y1 y2 y3 y4))
  | 0 => fun _ _ _ _ _ r h => by simp [slices_Compare_int_int.l0] at h
  | k + 1 => by
    have ih0 := slices_Compare_int_int.mono_l k
    · intro y0 y1 y2 y3 y4
      unfold slices_Compare_int_int.l0
      repeat' first|exact ih0 _ _ _ _ _|exact lo_|refine LeO.ite ?_ ?_|refine LeO.bind ?_ (fun _ => ?_)
theorem slices_Compare_int_int.mono : ∀ a0 a1 k, LeO (slices_Compare_int_int.f k a0 a1) (slices_Compare_int_int.f (k + 1) a0 a1) := by
  intro a0 a1 k
  have ih0 := slices_Compare_int_int.mono_l k
  unfold slices_Compare_int_int.f
  repeat' first|exact ih0 _ _ _ _ _|exact lo_|refine LeO.ite ?_ ?_|refine LeO.bind ?_ (fun _ => ?_)
set_option maxHeartbeats 8000000 in
set_option maxRecDepth 100000 in
theorem slices_Compare_int_int.calls (k : Nat) (A0 : Option Addr) (c0 : Nat) (l0 : List Int) (A1 : Option Addr) (c1 : Nat) (l1 : List Int) (r : Int) (w : World) (hr0 : Kd.C (Kd.int .i64) w A0 l0.length l0) (hc0 : l0.length ≤ c0) (hr1 : Kd.C (Kd.int .i64) w A1 l1.length l1) (hc1 : l1.length ≤ c1) (h : slices_Compare_int_int.f k l0 l1 = some r) :
    Calls Try.prog 115 #[.slice A0 l0.length c0, .slice A1 l1.length c1] w fun e w' => e = .returned (.int .i64 r) ∧ Drawn0 w w' := by
  have HR0 := Aside0.mk hr0
  have HC0 := Aside0.mk hc0
  clear hr0 hc0
  have HR1 := Aside0.mk hr1
  have HC1 := Aside0.mk hc1
  clear hr1 hc1
  have H := h
  unfold slices_Compare_int_int.f at H
  clear h
  have H' := Aside0.mk H
  clear H
  go_enter Try.func115, Try.ntmps115
  go_wp2
  go_loopg [11] k (fun kq v11 w' => ∃ (x11_1 : Int), v11 = .int .i64 x11_1 ∧ Aside0 (slices_Compare_int_int.l0 kq l0 l1 l0 (l0.length : Int) x11_1 = some r) ∧ Aside0 (kq ≤ k) ∧ Drawn0 w w')
  case atStart => exact ⟨(0), qc_, H', ⟨Nat.le_refl _⟩, by repeat (first | exact Drawn0.refl _ | apply Drawn0.step)⟩
  case round =>
    clear H'
    obtain ⟨x11_1, rfl, HA, HK1, ⟨m1, rfl⟩⟩ := hrel
    cases gk with
    | zero => exact absurd HA.out (by simp [slices_Compare_int_int.l0])
    | succ k1 =>
      have H := HA.out
      clear HA
      simp only [slices_Compare_int_int.l0] at H
      by_cases c3 : x11_1 < (l0.length : Int)
      · rw [if_pos c3] at H
        have c3b0 := decide_eq_true c3
        clear c3
        have c4 := cp_ H
        replace H := ca_ H
        have c4b0 := decide_eq_true c4
        clear c4
        have c5 := cp_ H
        replace H := ca_ H
        have c5b0 := decide_eq_true c5
        clear c5
        by_cases c6 : x11_1 ≥ (l1.length : Int)
        · rw [if_pos c6] at H
          have c6b0 : decide ((l1.length : Int) ≤ x11_1) = true := decide_eq_true c6
          clear c6
          obtain rfl := Option.some.inj H
          have p304 : 0 ≤ (x11_1 : Int) := of_decide_eq_true qe_
          have q304 : x11_1 < (l0.length : Int) := of_decide_eq_true qe_
          obtain ⟨ad304, e304, hx304_0⟩ := Kd.at_int HR0.out x11_1 p304 q304
          cases e304
          replace p304 := eq_true p304
          replace q304 := eq_true q304
          go_wp2
          go_ret
          exact ⟨qc_, by repeat (first | exact Drawn0.refl _ | apply Drawn0.step)⟩
        · rw [if_neg c6] at H
          have c6b0 : decide ((l1.length : Int) ≤ x11_1) = false := decide_eq_false c6
          clear c6
          have c7 := cp_ H
          replace H := ca_ H
          have c7b0 := decide_eq_true c7
          clear c7
          obtain ⟨t306, A8, H⟩ := bi_ H
          by_cases c9 : t306 = 0
          · rw [if_pos c9] at H
            have c9b0 : (t306 == 0) = true := beq_iff_eq.mpr c9
            have c9b1 : (t306 != 0) = false := bne_eq_false_iff_eq.mpr c9
            clear c9
            have H' := Aside0.mk H
            clear H
            have p304 : 0 ≤ (x11_1 : Int) := of_decide_eq_true qe_
            have q304 : x11_1 < (l0.length : Int) := of_decide_eq_true qe_
            obtain ⟨ad304, e304, hx304_0⟩ := Kd.at_int HR0.out x11_1 p304 q304
            cases e304
            replace p304 := eq_true p304
            replace q304 := eq_true q304
            have p305 : 0 ≤ (x11_1 : Int) := of_decide_eq_true qe_
            have q305 : x11_1 < (l1.length : Int) := of_decide_eq_true qe_
            obtain ⟨ad305, e305, hx305_0⟩ := Kd.at_int HR1.out x11_1 p305 q305
            cases e305
            replace p305 := eq_true p305
            replace q305 := eq_true q305
            go_wp2_with (first | ((with_reducible refine gate_callee (f := 145) rfl ?_); refine gL_ (some 26) Try.func145 #[.int .i64 (rd l0 x11_1), .int .i64 (rd l1 x11_1)] rfl qa_ ?_; (with_reducible refine (cmp_Compare_int.calls (rd l0 x11_1) (rd l1 x11_1) t306 _ A8.out).mono ?_); rintro e w' ⟨rfl, ⟨nd, rfl⟩⟩; refine ⟨_, rfl, ?_⟩))
            go_roundg k1
            case measure => have := HK1.out; omega
            case rel => exact ⟨(wrap64 (x11_1 + 1)), qc_, H', ⟨by have := HK1.out; omega⟩, by repeat (first | exact Drawn0.refl _ | apply Drawn0.step)⟩
          · rw [if_neg c9] at H
            have c9b0 : (t306 == 0) = false := beq_eq_false_iff_ne.mpr c9
            have c9b1 : (t306 != 0) = true := bne_iff_ne.mpr c9
            obtain rfl := Option.some.inj H
            have p304 : 0 ≤ (x11_1 : Int) := of_decide_eq_true qe_
            have q304 : x11_1 < (l0.length : Int) := of_decide_eq_true qe_
            obtain ⟨ad304, e304, hx304_0⟩ := Kd.at_int HR0.out x11_1 p304 q304
            cases e304
            replace p304 := eq_true p304
            replace q304 := eq_true q304
            have p305 : 0 ≤ (x11_1 : Int) := of_decide_eq_true qe_
            have q305 : x11_1 < (l1.length : Int) := of_decide_eq_true qe_
            obtain ⟨ad305, e305, hx305_0⟩ := Kd.at_int HR1.out x11_1 p305 q305
            cases e305
            replace p305 := eq_true p305
            replace q305 := eq_true q305
            go_wp2_with (first | ((with_reducible refine gate_callee (f := 145) rfl ?_); refine gL_ (some 26) Try.func145 #[.int .i64 (rd l0 x11_1), .int .i64 (rd l1 x11_1)] rfl qa_ ?_; (with_reducible refine (cmp_Compare_int.calls (rd l0 x11_1) (rd l1 x11_1) t306 _ A8.out).mono ?_); rintro e w' ⟨rfl, ⟨nd, rfl⟩⟩; refine ⟨_, rfl, ?_⟩))
            go_ret
            exact ⟨qc_, by repeat (first | exact Drawn0.refl _ | apply Drawn0.step)⟩
      · rw [if_neg c3] at H
        have c3b0 := decide_eq_false c3
        clear c3
        by_cases c10 : (l0.length : Int) < (l1.length : Int)
        · rw [if_pos c10] at H
          have c10b0 := decide_eq_true c10
          have c10b1 : decide (l0.length < l1.length) = true := decide_eq_true (Int.ofNat_lt.mp c10)
          clear c10
          obtain rfl := Option.some.inj H
          go_wp2
          go_ret
          exact ⟨qc_, by repeat (first | exact Drawn0.refl _ | apply Drawn0.step)⟩
        · rw [if_neg c10] at H
          have c10b0 := decide_eq_false c10
          have c10b1 : decide (l0.length < l1.length) = false := decide_eq_false (fun h => c10 (Int.ofNat_lt.mpr h))
          clear c10
          obtain rfl := Option.some.inj H
          go_wp2
          go_ret
          exact ⟨qc_, by repeat (first | exact Drawn0.refl _ | apply Drawn0.step)⟩
end Go.Proofs.Ytcggfjpnfodbaaa.A
end
section
namespace Go.Proofs.Ytcggfjpnfodbaaa.A
open Go.RowKit Go.Proofs.YtcggfjpnfodbaaaW.PrintWords Go.Proofs.YtcggfjpnfodbaaaW.PrintLast Go.Proofs.YtcggfjpnfodbaaaW.PrintMore
attribute [local go_sem] max2_int min2_int max_two min_two max_three min_three max_four min_four
set_option linter.unusedVariables false
set_option linter.unusedSimpArgs false
def impl_compareSurfaces.f (k : Nat) (l0_0 : List Int) (l0_1 : List Int) (l1_0 : List Int) (l1_1 : List Int) : Option (Int) := (slices_Compare_int_int.f k l0_0 l1_0).bind fun t309 => (if t309 = 0 then ((slices_Compare_int_int.f k l0_1 l1_1).bind fun t310 => (some t310)) else (some t309))
theorem impl_compareSurfaces.mono : ∀ a0 a1 a2 a3 k, LeO (impl_compareSurfaces.f k a0 a1 a2 a3) (impl_compareSurfaces.f (k + 1) a0 a1 a2 a3) := by
  intro a0 a1 a2 a3 k
  unfold impl_compareSurfaces.f
  repeat' first|exact slices_Compare_int_int.mono _ _ _|exact lo_|refine LeO.ite ?_ ?_|refine LeO.bind ?_ (fun _ => ?_)
set_option maxHeartbeats 8000000 in
set_option maxRecDepth 100000 in
theorem impl_compareSurfaces.calls (k : Nat) (A0_0 : Option Addr) (c0_0 : Nat) (l0_0 : List Int) (A0_1 : Option Addr) (c0_1 : Nat) (l0_1 : List Int) (A1_0 : Option Addr) (c1_0 : Nat) (l1_0 : List Int) (A1_1 : Option Addr) (c1_1 : Nat) (l1_1 : List Int) (r : Int) (w : World) (hr0_0 : Kd.C (Kd.int .i64) w A0_0 l0_0.length l0_0) (hc0_0 : l0_0.length ≤ c0_0) (hr0_1 : Kd.C (Kd.int .i64) w A0_1 l0_1.length l0_1) (hc0_1 : l0_1.length ≤ c0_1) (hr1_0 : Kd.C (Kd.int .i64) w A1_0 l1_0.length l1_0) (hc1_0 : l1_0.length ≤ c1_0) (hr1_1 : Kd.C (Kd.int .i64) w A1_1 l1_1.length l1_1) (hc1_1 : l1_1.length ≤ c1_1) (h : impl_compareSurfaces.f k l0_0 l0_1 l1_0 l1_1 = some r) :
    Calls Try.prog 77 #[.agg #[.slice A0_0 l0_0.length c0_0, .slice A0_1 l0_1.length c0_1], .agg #[.slice A1_0 l1_0.length c1_0, .slice A1_1 l1_1.length c1_1]] w fun e w' => e = .returned (.int .i64 r) ∧ Below w.heap.size w w' := by
  have hu25 := Try.underlying25
  have HR0_0 := Aside0.mk hr0_0
  have HC0_0 := Aside0.mk hc0_0
  clear hr0_0 hc0_0
  have HR0_1 := Aside0.mk hr0_1
  have HC0_1 := Aside0.mk hc0_1
  clear hr0_1 hc0_1
  have HR1_0 := Aside0.mk hr1_0
  have HC1_0 := Aside0.mk hc1_0
  clear hr1_0 hc1_0
  have HR1_1 := Aside0.mk hr1_1
  have HC1_1 := Aside0.mk hc1_1
  clear hr1_1 hc1_1
  have HB := Aside0.mk (Below.refl w.heap.size w)
  have H := h
  unfold impl_compareSurfaces.f at H
  clear h
  obtain ⟨t309, A3, H⟩ := bi_ H
  by_cases c4 : t309 = 0
  · rw [if_pos c4] at H
    have c4b0 : (t309 == 0) = true := beq_iff_eq.mpr c4
    have c4b1 : (t309 != 0) = false := bne_eq_false_iff_eq.mpr c4
    clear c4
    obtain ⟨t310, A5, H⟩ := bi_ H
    obtain rfl := Option.some.inj H
    go_enter Try.func77, Try.ntmps77
    go_wp2_with (first | ((with_reducible refine gate_dst (N := 2) rfl ?_); refine bx_ 2 #[.slice A0_0 l0_0.length c0_0, .slice A0_1 l0_1.length c0_1] 25 ?_; intro gb307 hg w6 hbox hb; have BK307 := Aside0.mk hbox; have GW307 := gw_ w hg; have GE307 := GW307; replace HB := b1_ hb; clear hb hbox hg) | ((with_reducible refine gate_dst (N := 3) rfl ?_); refine bx_ 3 #[.slice A1_0 l1_0.length c1_0, .slice A1_1 l1_1.length c1_1] 25 ?_; intro gb308 hg w7 hbox hb; have BK308 := Aside0.mk hbox; have GW308 := gw_ w hg; have GE308 := GW308; replace HB := b1_ hb; have NB307_308 := gN_ BK307 hg; have NB308_307 := gP_ BK307 hg; replace BK307 := bb_ BK307 hb; clear hb hbox hg; have hnb8 := NB307_308.out; have hnc8 := NB308_307.out; obtain ⟨hcz9_0, hcz9_1, hfz9_0, hfz9_1⟩ := c2_ BK307; obtain ⟨hcz10_0, hcz10_1, hfz10_0, hfz10_1⟩ := c2_ BK308) | ((with_reducible refine gate_callee (f := 115) rfl ?_); refine gL_ (some 10) Try.func115 #[.slice A0_0 l0_0.length c0_0, .slice A1_0 l1_0.length c1_0] rfl qa_ ?_; (with_reducible refine (slices_Compare_int_int.calls k _ _ l0_0 _ _ l1_0 t309 _ (cb_ HR0_0) HC0_0.out (cb_ HR1_0) HC1_0.out A3.out).mono ?_); rintro e w' ⟨rfl, ⟨nd, rfl⟩⟩; refine ⟨_, rfl, ?_⟩) | ((with_reducible refine gate_callee (f := 115) rfl ?_); refine gL_ (some 18) Try.func115 #[.slice A0_1 l0_1.length c0_1, .slice A1_1 l1_1.length c1_1] rfl qa_ ?_; (with_reducible refine (slices_Compare_int_int.calls k _ _ l0_1 _ _ l1_1 t310 _ (cw_ (Kd.C_below HR0_1.out hB_)) HC0_1.out (cw_ (Kd.C_below HR1_1.out hB_)) HC1_1.out A5.out).mono ?_); rintro e w' ⟨rfl, ⟨nd, rfl⟩⟩; refine ⟨_, rfl, ?_⟩))
    go_ret
    exact ⟨qb_, hB_⟩
  · rw [if_neg c4] at H
    have c4b0 : (t309 == 0) = false := beq_eq_false_iff_ne.mpr c4
    have c4b1 : (t309 != 0) = true := bne_iff_ne.mpr c4
    obtain rfl := Option.some.inj H
    go_enter Try.func77, Try.ntmps77
    go_wp2_with (first | ((with_reducible refine gate_dst (N := 2) rfl ?_); refine bx_ 2 #[.slice A0_0 l0_0.length c0_0, .slice A0_1 l0_1.length c0_1] 25 ?_; intro gb307 hg w11 hbox hb; have BK307 := Aside0.mk hbox; have GW307 := gw_ w hg; have GE307 := GW307; replace HB := b1_ hb; clear hb hbox hg) | ((with_reducible refine gate_dst (N := 3) rfl ?_); refine bx_ 3 #[.slice A1_0 l1_0.length c1_0, .slice A1_1 l1_1.length c1_1] 25 ?_; intro gb308 hg w12 hbox hb; have BK308 := Aside0.mk hbox; have GW308 := gw_ w hg; have GE308 := GW308; replace HB := b1_ hb; have NB307_308 := gN_ BK307 hg; have NB308_307 := gP_ BK307 hg; replace BK307 := bb_ BK307 hb; clear hb hbox hg; have hnb13 := NB307_308.out; have hnc13 := NB308_307.out; obtain ⟨hcz14_0, hcz14_1, hfz14_0, hfz14_1⟩ := c2_ BK307; obtain ⟨hcz15_0, hcz15_1, hfz15_0, hfz15_1⟩ := c2_ BK308) | ((with_reducible refine gate_callee (f := 115) rfl ?_); refine gL_ (some 10) Try.func115 #[.slice A0_0 l0_0.length c0_0, .slice A1_0 l1_0.length c1_0] rfl qa_ ?_; (with_reducible refine (slices_Compare_int_int.calls k _ _ l0_0 _ _ l1_0 t309 _ (cb_ HR0_0) HC0_0.out (cb_ HR1_0) HC1_0.out A3.out).mono ?_); rintro e w' ⟨rfl, ⟨nd, rfl⟩⟩; refine ⟨_, rfl, ?_⟩))
    go_ret
    exact ⟨qb_, hB_⟩
end Go.Proofs.Ytcggfjpnfodbaaa.A
end
section
namespace Go.Proofs.Ytcggfjpnfodbaaa.A
open Go.RowKit Go.Proofs.YtcggfjpnfodbaaaW.PrintWords Go.Proofs.YtcggfjpnfodbaaaW.PrintLast Go.Proofs.YtcggfjpnfodbaaaW.PrintMore
attribute [local go_sem] max2_int min2_int max_two min_two max_three min_three max_four min_four
set_option linter.unusedVariables false
set_option linter.unusedSimpArgs false
def impl_Surface_76.l0 : Nat → List (S25) → Int → List Int → List Int → Option (List Int × List Int)
  | 0, _, _, _, _ => none
  | k + 1, x0, x6, x314000, x314001 => if x6 < (x0.length : Int) then (if 0 ≤ x6 then ((impl_compareSurfaces.f k ((rd_T25 x0 x6).f0) ((rd_T25 x0 x6).f1) x314000 x314001).bind fun t315 => (if t315 < 0 then (impl_Surface_76.l0 k x0 (wrap64 (x6 + 1)) ((rd_T25 x0 x6).f0) ((rd_T25 x0 x6).f1)) else (impl_Surface_76.l0 k x0 (wrap64 (x6 + 1)) x314000 x314001))) else (none)) else (some (x314000, x314001))
def impl_Surface_76.f (k : Nat) (l0 : List (S25)) : Option (List Int × List Int) := if (l0.length : Int) < 1 then (none) else (if 0 < (l0.length : Int) then (impl_Surface_76.l0 k l0 1 ((rd_T25 l0 0).f0) ((rd_T25 l0 0).f1)) else (none))
theorem impl_Surface_76.mono_l : ∀ k, (∀ y0 y1 y2 y3, LeO (impl_Surface_76.l0 k y0 y1 y2 y3) (impl_Surface_76.l0 (k + 1) y0 y1 y2 y3))
  | 0 => fun _ _ _ _ r h => by simp [impl_Surface_76.l0] at h
  | k + 1 => by
    have ih0 := impl_Surface_76.mono_l k
    · intro y0 y1 y2 y3
      unfold impl_Surface_76.l0
      repeat' first|exact ih0 _ _ _ _|exact impl_compareSurfaces.mono _ _ _ _ _|exact lo_|refine LeO.ite ?_ ?_|refine LeO.bind ?_ (fun _ => ?_)
theorem impl_Surface_76.mono : ∀ a0 k, LeO (impl_Surface_76.f k a0) (impl_Surface_76.f (k + 1) a0) := by
  intro a0 k
  have ih0 := impl_Surface_76.mono_l k
  unfold impl_Surface_76.f
  repeat' first|exact ih0 _ _ _ _|exact impl_compareSurfaces.mono _ _ _ _ _|exact lo_|refine LeO.ite ?_ ?_|refine LeO.bind ?_ (fun _ => ?_)
def impl_Surface_76.T7 : Bool × List (List Nat × List Nat) := (true, [([], []), ([], []), ([], []), ([1, 2], [1, 2]), ([3], [3]), ([], []), ([0, 4, 5], [0, 4, 5]), ([6], [6])])
def impl_Surface_76.B7 : List Nat := [0, 0, 0, 6, 14, 0, 63, 127]
theorem impl_Surface_76.tab7 : rtab .any (opsOf Try.f76 7) = impl_Surface_76.T7 := by kernel_rfl
theorem impl_Surface_76.bits7 : waitsOk impl_Surface_76.T7.2 impl_Surface_76.B7 = true := by kernel_rfl
def AtJ (w : World) (l0 : List S25) (A : Option Addr) (u0 u1 : Value) (x0 x1 : List Int) : Prop := ∃ (ad : Addr) (j : Nat), A = some ad ∧ j < l0.length ∧ w.cell? (ad.add (j * 2)) = some u0 ∧ w.cell? ⟨(ad.add (j * 2)).block, (ad.add (j * 2)).off + 1, none⟩ = some u1 ∧ x0 = (rd_T25 l0 (j : Int)).f0 ∧ x1 = (rd_T25 l0 (j : Int)).f1
theorem atJ_of {w w' : World} {P : Nat → Prop} {b : Nat} {ad : Addr} {c : Nat} {l0 : List S25} (hs0 : Kd.V k25 25 w b P (.slice (some ad) l0.length c) l0) (hB : Below w.heap.size w w') (i : Int) (h0 : 0 ≤ i) (h1 : i < (l0.length : Int)) {u0 u1 : Value} (hx0 : w'.cell? (ad.add (i.toNat * 2)) = some u0) (hx1 : w'.cell? ⟨(ad.add (i.toNat * 2)).block, (ad.add (i.toNat * 2)).off + 1, none⟩ = some u1) : AtJ w l0 (some ad) u0 u1 (rd_T25 l0 i).f0 (rd_T25 l0 i).f1 := by
  obtain ⟨ad', A0, c0, A1, c1, e, y0, y1, _⟩ := at_T25 (Kd.V_reads' hs0).2.2 i h0 h1
  injection e with e
  subst e
  have z0 := hB.cell (World.block_lt_of_cell? w _ y0)
  have z1 := hB.cell (World.block_lt_of_cell? w _ y1)
  have e : ((i.toNat : Nat) : Int) = i := Int.toNat_of_nonneg h0
  exact ⟨ad, i.toNat, rfl, by omega, z0.symm.trans hx0, z1.symm.trans hx1, by rw [e], by rw [e]⟩
theorem atJ_own {w w' : World} {base : Nat} {ok : Nat → Prop} {A : Option Addr} {c : Nat} {l0 : List S25} {u0 u1 : Value} {x0 x1 : List Int} (hS : Kd.S k25 25 w base ok (.slice A l0.length c) l0) (hJ : AtJ w l0 A u0 u1 x0 x1) (hB : Below w.heap.size w w') : Kd.R (Kd.int .i64) 3 w' base ok u0 x0 ∧ Kd.R (Kd.int .i64) 3 w' base ok u1 x1 ∧ NeRow u0 u1 := by
  obtain ⟨ad, j, rfl, hj, h0, h1, rfl, rfl⟩ := hJ
  obtain ⟨c, hcl, hM, hc⟩ := Kd.R_getA (Kd.S_R hS) z25 (j : Int) (by omega) (by omega)
  have hc' : ∀ i u, c[i]? = some u → w.cell? (ad.add (j * 2 + i)) = some u := hc
  obtain ⟨v0, v1, rfl, g0, g1, ne⟩ := k25_openN hM
  have e0 := hc' 0 v0 rfl
  have e1 := hc' 1 v1 rfl
  rw [add_field _ _ 1 (by omega)] at e1
  rw [Nat.add_zero] at e0
  obtain rfl : u0 = v0 := Option.some.inj (h0.symm.trans e0)
  obtain rfl : u1 = v1 := Option.some.inj (h1.symm.trans e1)
  exact ⟨Kd.R_mono (Kd.R_below g0 hB) (fun _ h => h.1), Kd.R_mono (Kd.R_below g1 hB) (fun _ h => h.1), ne⟩
set_option maxHeartbeats 8000000 in
set_option maxRecDepth 100000 in
theorem impl_Surface_76.calls (k : Nat) (P0_ : Nat → Prop) (A0 : Option Addr) (c0 : Nat) (l0 : List (S25)) (r1 : List Int) (r2 : List Int) (w : World) (hs0 : Kd.V k25 25 w w.heap.size (fun k_ => P0_ k_) (.slice A0 l0.length c0) l0) (h : impl_Surface_76.f k l0 = some (r1, r2)) :
    Calls Try.prog 76 #[.slice A0 l0.length c0, .func (.func 77) #[] #[]] w fun e w' => ∃ v0_ v1_ : Value, e = .returned (.agg #[v0_, v1_]) ∧ Kd.V (Kd.int .i64) 3 w' w.heap.size (fun k_ => (P0_ k_ ∨ w.heap.size ≤ k_)) v0_ r1 ∧ Kd.V (Kd.int .i64) 3 w' w.heap.size (fun k_ => (P0_ k_ ∨ w.heap.size ≤ k_)) v1_ r2 ∧ Below w.heap.size w w' ∧ AtJ w l0 A0 v0_ v1_ r1 r2 := by
  have HS0 := Aside0.mk hs0
  have hu25 := Try.underlying25
  have HO0 := Aside0.mk (show Kd.V k25 25 w w.heap.size (fun k_ => (P0_ k_ ∨ w.heap.size ≤ k_)) (.slice A0 l0.length c0) l0 from Kd.V_mono hs0 (fun k_ hk => .inl hk))
  have HB := Aside0.mk (Below.refl w.heap.size w)
  have H := h
  unfold impl_Surface_76.f at H
  clear h
  by_cases c2 : (l0.length : Int) < 1
  · rw [if_pos c2] at H
    exact absurd H (by simp)
  · rw [if_neg c2] at H
    have c2b0 := decide_eq_false c2
    have c2b1 : decide (l0.length < 1) = false := decide_eq_false (by omega)
    clear c2
    have c3 := cp_ H
    replace H := ca_ H
    have c3b0 := decide_eq_true c3
    have c3b1 : decide (0 < l0.length) = true := decide_eq_true (by omega)
    clear c3
    have H' := Aside0.mk H
    clear H
    go_enter Try.func76, Try.ntmps76
    go_wp2_with (first | ((with_reducible refine gate_dst (N := 4) rfl ?_); refine bx_ 4 #[.slice none 0 0, .slice none 0 0] 25 ?_; intro gb311 hg w4 hbox hb; replace HO0 := Aside0.mk (Kd.V_below (Kd.V_elderB (by (with_reducible repeat (first | apply Kd.V_alloc | apply Kd.V_drewN | apply Kd.V_drew)); exact HO0.out) gb311 (Nat.le_of_eq hg.symm)) hb); have BK311 := Aside0.mk hbox; have GW311 := gw_ w hg; have GE311 := GW311; replace HB := b1_ hb; clear hb hbox hg; have p312 : 0 ≤ (0 : Int) := (by omega); have q312 : 0 < (l0.length : Int) := of_decide_eq_true qe_; obtain ⟨ad312, A312_0, c312_0, A312_1, c312_1, e312, hx312_0, hx312_1, hl312_0, hi312_0, hl312_1, hi312_1⟩ := at_T25 (Kd.V_reads' HO0.out).2.2 0 p312 q312; cases e312; obtain ⟨ce312, hce312, hMe312, hcc312⟩ := Kd.V_get HO0.out z25 0 p312 (by first | exact q312 | exact of_decide_eq_true qe_ | (have e_ := (Kd.V_reads' HO0.out).1; omega)); obtain ⟨ua312_0, uc312_0, ua312_1, uc312_1, rfl, ul312_0, ge312_0, ul312_1, ge312_1⟩ := k25_openF hMe312; have hv312_0 := hcc312 0 _ rfl; rw [Nat.add_zero] at hv312_0; replace hv312_0 := Option.some.inj (hv312_0.symm.trans hx312_0); injection hv312_0 with hva_ hvn_ hvc_; rw [hva_] at ge312_0; rw [hvc_] at ul312_0; have HL312_0 := Aside0.mk (show Kd.V (Kd.int .i64) 3 _ w.heap.size _ _ ((rd_T25 l0 0).f0) from Kd.V_mk ul312_0 ge312_0); clear hva_ hvn_ hvc_ ge312_0 ul312_0; have hv312_1 := hcc312 1 _ rfl; rw [add_field _ _ 1 (by omega)] at hv312_1; replace hv312_1 := Option.some.inj (hv312_1.symm.trans hx312_1); injection hv312_1 with hva_ hvn_ hvc_; rw [hva_] at ge312_1; rw [hvc_] at ul312_1; have HL312_1 := Aside0.mk (show Kd.V (Kd.int .i64) 3 _ w.heap.size _ _ ((rd_T25 l0 0).f1) from Kd.V_mk ul312_1 ge312_1); clear hva_ hvn_ hvc_ ge312_1 ul312_1; clear hcc312 hce312; have HJ := Aside0.mk (atJ_of HS0.out hB_ 0 p312 q312 hx312_0 hx312_1); have qi312 : (0 < l0.length) = True := eq_true (by omega); (try rw [show ((0 : Int)).toNat = 0 from rfl] at hx312_0); (try rw [show 0 * 2 = 0 from rfl] at hx312_0); (try rw [Addr.add_zero'] at hx312_0); (try rw [show ((0 : Int)).toNat = 0 from rfl] at hx312_1); (try rw [show 0 * 2 = 0 from rfl] at hx312_1); (try rw [Addr.add_zero'] at hx312_1); have HR312_0 := Aside0.mk hi312_0; have HC312_0 := Aside0.mk hl312_0; clear hi312_0 hl312_0; have HR312_1 := Aside0.mk hi312_1; have HC312_1 := Aside0.mk hl312_1; clear hi312_1 hl312_1; replace p312 := eq_true p312; replace q312 := eq_true q312) | ((with_reducible refine gate_dst (N := 5) rfl ?_); refine bx_ 5 #[.slice none 0 0, .slice none 0 0] 25 ?_; intro gb313 hg w5 hbox hb; replace HO0 := Aside0.mk (Kd.V_below (Kd.V_elderB (by (with_reducible repeat (first | apply Kd.V_alloc | apply Kd.V_drewN | apply Kd.V_drew)); exact HO0.out) gb313 (Nat.le_of_eq hg.symm)) hb); replace HL312_0 := Aside0.mk (Kd.V_below (Kd.V_elderB (by (with_reducible repeat (first | apply Kd.V_alloc | apply Kd.V_drewN | apply Kd.V_drew)); exact HL312_0.out) gb313 (Nat.le_of_eq hg.symm)) hb); replace HL312_1 := Aside0.mk (Kd.V_below (Kd.V_elderB (by (with_reducible repeat (first | apply Kd.V_alloc | apply Kd.V_drewN | apply Kd.V_drew)); exact HL312_1.out) gb313 (Nat.le_of_eq hg.symm)) hb); have BK313 := Aside0.mk hbox; have GW313 := gw_ w hg; have GE313 := GW313; replace HB := b1_ hb; have NB311_313 := gN_ BK311 hg; have NB313_311 := gP_ BK311 hg; replace BK311 := bb_ BK311 hb; clear hb hbox hg; have hnb6 := NB313_311.out; have hnc6 := NB311_313.out; obtain ⟨hcz7_0, hcz7_1, hfz7_0, hfz7_1⟩ := c2_ BK313))
    go_loopg [6] k (fun kq v6 w' => ∃ (x6_1 : Int) (x314000_1 : List Int) (x314001_1 : List Int) (u314000 : Value) (u314001 : Value), v6 = .int .i64 x6_1 ∧ Aside0 (impl_Surface_76.l0 kq l0 x6_1 x314000_1 x314001_1 = some (r1, r2)) ∧ Aside0 (kq ≤ k) ∧ Aside0 (Kd.V k25 25 w' w.heap.size (fun k_ => (P0_ k_ ∨ w.heap.size ≤ k_) ∧ k_ ≠ gb311 ∧ k_ ≠ gb313) (.slice (some ad312) l0.length c0) l0) ∧ Aside0 (Kd.V (Kd.int .i64) 3 w' w.heap.size (fun k_ => (P0_ k_ ∨ w.heap.size ≤ k_) ∧ k_ ≠ gb311 ∧ k_ ≠ gb313) u314000 x314000_1) ∧ Aside0 (Kd.V (Kd.int .i64) 3 w' w.heap.size (fun k_ => (P0_ k_ ∨ w.heap.size ≤ k_) ∧ k_ ≠ gb311 ∧ k_ ≠ gb313) u314001 x314001_1) ∧ Aside0 (w'.heap[gb311]? = some (.cells #[(.slice none 0 0), (.slice none 0 0)] 25 (0, 0))) ∧ Aside0 (w'.heap[gb313]? = some (.cells #[u314000, u314001] 25 (0, 0))) ∧ Aside0 (Below w.heap.size w w') ∧ Aside0 (AtJ w l0 (some ad312) u314000 u314001 x314000_1 x314001_1))
    case atStart => exact ⟨(1), ((rd_T25 l0 0).f0), ((rd_T25 l0 0).f1), (.slice A312_0 ((rd_T25 l0 0).f0).length c312_0), (.slice A312_1 ((rd_T25 l0 0).f1).length c312_1), qc_, H', ⟨Nat.le_refl _⟩, ⟨by (with_reducible repeat (first | apply Kd.V_alloc | apply Kd.V_drewN | apply Kd.V_drew)); exact Kd.V_mono (Kd.V_far (p := ⟨gb313, 1, none⟩) (Kd.V_far (p := ⟨gb313, 0, none⟩) (Kd.V_mono HO0.out (fun k_ hk => (⟨hk, hk.2⟩ : _ ∧ k_ ≠ gb313))) (fun _ hk => hk.2) (.slice A312_0 ((rd_T25 l0 0).f0).length c312_0)) (fun _ hk => hk.2) (.slice A312_1 ((rd_T25 l0 0).f1).length c312_1)) (fun _ hk => ⟨hk.1.1.1, ⟨hk.1.1.2, hk.1.2⟩⟩)⟩, ⟨by (with_reducible repeat (first | apply Kd.V_alloc | apply Kd.V_drewN | apply Kd.V_drew)); exact Kd.V_mono (Kd.V_far (p := ⟨gb313, 1, none⟩) (Kd.V_far (p := ⟨gb313, 0, none⟩) (Kd.V_mono HL312_0.out (fun k_ hk => (⟨hk, hk.2⟩ : _ ∧ k_ ≠ gb313))) (fun _ hk => hk.2) (.slice A312_0 ((rd_T25 l0 0).f0).length c312_0)) (fun _ hk => hk.2) (.slice A312_1 ((rd_T25 l0 0).f1).length c312_1)) (fun _ hk => ⟨hk.1.1.1, ⟨hk.1.1.2, hk.1.2⟩⟩)⟩, ⟨by (with_reducible repeat (first | apply Kd.V_alloc | apply Kd.V_drewN | apply Kd.V_drew)); exact Kd.V_mono (Kd.V_far (p := ⟨gb313, 1, none⟩) (Kd.V_far (p := ⟨gb313, 0, none⟩) (Kd.V_mono HL312_1.out (fun k_ hk => (⟨hk, hk.2⟩ : _ ∧ k_ ≠ gb313))) (fun _ hk => hk.2) (.slice A312_0 ((rd_T25 l0 0).f0).length c312_0)) (fun _ hk => hk.2) (.slice A312_1 ((rd_T25 l0 0).f1).length c312_1)) (fun _ hk => ⟨hk.1.1.1, ⟨hk.1.1.2, hk.1.2⟩⟩)⟩, ⟨by (with_reducible repeat (first | refine blk_drewN ?_ _ | refine blk_drew ?_ | refine blk_alloc ?_ _)); refine blk_far ?_ NB311_313.out _; (with_reducible repeat (first | refine blk_drewN ?_ _ | refine blk_drew ?_ | refine blk_alloc ?_ _)); refine blk_far ?_ NB311_313.out _; (with_reducible repeat (first | refine blk_drewN ?_ _ | refine blk_drew ?_ | refine blk_alloc ?_ _)); exact BK311.out⟩, ⟨qp_⟩, ⟨hB_⟩, HJ⟩
    case round =>
      clear H'
      obtain ⟨x6_1, x314000_1, x314001_1, u314000, u314001, rfl, HA, HK1, HO_0, HO_314000, HO_314001, BK311, BK313, HB, HJ⟩ := hrel
      cases gk with
      | zero => exact absurd HA.out (by simp [impl_Surface_76.l0])
      | succ k1 =>
        have H := HA.out
        clear HA
        simp only [impl_Surface_76.l0] at H
        by_cases c8 : x6_1 < (l0.length : Int)
        · rw [if_pos c8] at H
          have c8b0 := decide_eq_true c8
          clear c8
          have c9 := cp_ H
          replace H := ca_ H
          have c9b0 := decide_eq_true c9
          clear c9
          obtain ⟨t315, A10, H⟩ := bi_ H
          by_cases c11 : t315 < 0
          · rw [if_pos c11] at H
            have c11b0 := decide_eq_true c11
            clear c11
            have H' := Aside0.mk H
            clear H
            try go_wp2
            replace HO_0 := Aside0.mk (Kd.V_drew HO_0.out)
            replace HO_314000 := Aside0.mk (Kd.V_drew HO_314000.out)
            replace HO_314001 := Aside0.mk (Kd.V_drew HO_314001.out)
            replace BK311 := Aside0.mk (blk_drew BK311.out)
            replace BK313 := Aside0.mk (blk_drew BK313.out)
            replace HB := Aside0.mk (below_drew1 HB.out)
            have p314 : 0 ≤ (x6_1 : Int) := of_decide_eq_true qe_
            have q314 : x6_1 < (l0.length : Int) := of_decide_eq_true qe_
            obtain ⟨ad314, A314_0, c314_0, A314_1, c314_1, e314, hx314_0, hx314_1, hl314_0, hi314_0, hl314_1, hi314_1⟩ := at_T25 (Kd.V_reads' HO_0.out).2.2 x6_1 p314 q314
            obtain rfl : ad312 = ad314 := (by injection e314)
            obtain ⟨ce314, hce314, hMe314, hcc314⟩ := Kd.V_get HO_0.out z25 x6_1 p314 (by first | exact q314 | exact of_decide_eq_true qe_ | (have e_ := (Kd.V_reads' HO_0.out).1; omega))
            obtain ⟨ua314_0, uc314_0, ua314_1, uc314_1, rfl, ul314_0, ge314_0, ul314_1, ge314_1⟩ := k25_openF hMe314
            have hv314_0 := hcc314 0 _ rfl
            rw [Nat.add_zero] at hv314_0
            replace hv314_0 := Option.some.inj (hv314_0.symm.trans hx314_0)
            injection hv314_0 with hva_ hvn_ hvc_
            rw [hva_] at ge314_0
            rw [hvc_] at ul314_0
            have HL314_0 := Aside0.mk (show Kd.V (Kd.int .i64) 3 _ w.heap.size _ _ ((rd_T25 l0 x6_1).f0) from Kd.V_mk ul314_0 ge314_0)
            clear hva_ hvn_ hvc_ ge314_0 ul314_0
            have hv314_1 := hcc314 1 _ rfl
            rw [add_field _ _ 1 (by omega)] at hv314_1
            replace hv314_1 := Option.some.inj (hv314_1.symm.trans hx314_1)
            injection hv314_1 with hva_ hvn_ hvc_
            rw [hva_] at ge314_1
            rw [hvc_] at ul314_1
            have HL314_1 := Aside0.mk (show Kd.V (Kd.int .i64) 3 _ w.heap.size _ _ ((rd_T25 l0 x6_1).f1) from Kd.V_mk ul314_1 ge314_1)
            clear hva_ hvn_ hvc_ ge314_1 ul314_1
            clear hcc314 hce314
            have HJ314 := Aside0.mk (atJ_of HS0.out hB_ x6_1 p314 q314 hx314_0 hx314_1)
            have HR314_0 := Aside0.mk hi314_0
            have HC314_0 := Aside0.mk hl314_0
            clear hi314_0 hl314_0
            have HR314_1 := Aside0.mk hi314_1
            have HC314_1 := Aside0.mk hl314_1
            clear hi314_1 hl314_1
            replace p314 := eq_true p314
            replace q314 := eq_true q314
            obtain ⟨Ao13, co13, eo13⟩ := Kd.V_slice HO_314000.out
            (first | subst eo13 | (injection eo13 with f1_ f2_ f3_; have f4_ := f1_.symm; have f5_ := f3_.symm; clear f1_ f2_ f3_; subst f4_; subst f5_))
            obtain ⟨Ao14, co14, eo14⟩ := Kd.V_slice HO_314001.out
            (first | subst eo14 | (injection eo14 with f1_ f2_ f3_; have f4_ := f1_.symm; have f5_ := f3_.symm; clear f1_ f2_ f3_; subst f4_; subst f5_))
            refine start_ (n := 8) (S := fun w' => w'.cell? ⟨gb313, 0, none⟩ = some (.slice Ao13 x314000_1.length co13) ∧ w'.cell? ⟨gb313, 1, none⟩ = some (.slice Ao14 x314001_1.length co14) ∧ w'.cell? (ad312.add ((x6_1).toNat * 2)) = some (.slice A314_0 ((rd_T25 l0 x6_1).f0).length c314_0) ∧ w'.cell? ⟨(ad312.add ((x6_1).toNat * 2)).block, (ad312.add ((x6_1).toNat * 2)).off + 1, none⟩ = some (.slice A314_1 ((rd_T25 l0 x6_1).f1).length c314_1)) (ds := []) (bl_ 8 0) (by kernel_rfl) rfl (by kernel_rfl) ⟨cz0_ BK313, cz1_ BK313, hx314_0, hx314_1⟩ (fun hHeld => ?_); refine with_tabW impl_Surface_76.tab7 impl_Surface_76.bits7 (fun HT_ HW_ => ?_)
            generalize wr.drew = w12 at HO_0 HO_314000 HO_314001 BK311 BK313 HB HL314_0 HL314_1 HR314_0 HR314_1 hx314_0 hx314_1 hHeld ⊢
            refine pu_ 0 (some 20) (bl_ 8 1) HT_ ?_
            refine pu_ 1 (some 21) (bl_ 8 3) HT_ ?_
            refine pu_ 2 (some 22) (bl_ 8 7) HT_ ?_
            refine pu_ 3 (some 23) (bl_ 8 15) HT_ ?_
            refine ta_ 4 (some 24) (bl_ 8 31) HT_ HW_ hHeld ?_
            refine ta_ 5 (some 25) (bl_ 8 63) HT_ HW_ hHeld ?_
            refine on_ 6 (some 26) (bl_ 8 127) HT_ (fun K hK => ?_)
            refine goesF_ Try.func77 (by kernel_rfl) rfl #[.agg #[.slice A314_0 ((rd_T25 l0 x6_1).f0).length c314_0, .slice A314_1 ((rd_T25 l0 x6_1).f1).length c314_1], .agg #[.slice Ao13 x314000_1.length co13, .slice Ao14 x314001_1.length co14]] (by rfl) rfl rfl qa_ ?_
            with_reducible refine (impl_compareSurfaces.calls k1 _ _ ((rd_T25 l0 x6_1).f0) _ _ ((rd_T25 l0 x6_1).f1) _ _ x314000_1 _ _ x314001_1 t315 _ ?side1 ?side2 ?side3 ?side4 ?side5 ?side6 ?side7 ?side8 A10.out).mono ?_
            (case side1 => repeat (first | exact (by repeat (first | (with_reducible exact HR314_0.out) | (with_reducible refine Kd.C_alloc ?_ _) | (with_reducible refine Kd.C_drewN ?_ _) | (with_reducible refine Kd.C_drew ?_) | exact HR314_0.out)) | (with_reducible refine Kd.C_alloc ?_ _) | (with_reducible refine Kd.C_drewN ?_ _) | (with_reducible refine Kd.C_drew ?_)))
            (case side2 => exact HC314_0.out)
            (case side3 => repeat (first | exact (by repeat (first | (with_reducible exact HR314_1.out) | (with_reducible refine Kd.C_alloc ?_ _) | (with_reducible refine Kd.C_drewN ?_ _) | (with_reducible refine Kd.C_drew ?_) | exact HR314_1.out)) | (with_reducible refine Kd.C_alloc ?_ _) | (with_reducible refine Kd.C_drewN ?_ _) | (with_reducible refine Kd.C_drew ?_)))
            (case side4 => exact HC314_1.out)
            (case side5 => exact cw_ ((Kd.V_reads' HO_314000.out).2.2))
            (case side6 => exact (Kd.V_reads' HO_314000.out).2.1)
            (case side7 => exact cw_ ((Kd.V_reads' HO_314001.out).2.2))
            (case side8 => exact (Kd.V_reads' HO_314001.out).2.1)
            rintro e w15 ⟨rfl, hb⟩
            have HS2_ := (hb.cell (World.block_lt_of_cell? _ _ (hHeld.2.2.1))).trans (hHeld.2.2.1)
            have HS3_ := (hb.cell (World.block_lt_of_cell? _ _ (hHeld.2.2.2))).trans (hHeld.2.2.2)
            refine ⟨_, rfl, ?_⟩
            replace HO_0 := Aside0.mk (Kd.V_below (by (with_reducible repeat (first | apply Kd.V_alloc | apply Kd.V_drewN | apply Kd.V_drew)); exact HO_0.out) hb)
            replace HO_314000 := Aside0.mk (Kd.V_below (by (with_reducible repeat (first | apply Kd.V_alloc | apply Kd.V_drewN | apply Kd.V_drew)); exact HO_314000.out) hb)
            replace HO_314001 := Aside0.mk (Kd.V_below (by (with_reducible repeat (first | apply Kd.V_alloc | apply Kd.V_drewN | apply Kd.V_drew)); exact HO_314001.out) hb)
            replace HL314_0 := Aside0.mk (Kd.V_below (by (with_reducible repeat (first | apply Kd.V_alloc | apply Kd.V_drewN | apply Kd.V_drew)); exact HL314_0.out) hb)
            replace HL314_1 := Aside0.mk (Kd.V_below (by (with_reducible repeat (first | apply Kd.V_alloc | apply Kd.V_drewN | apply Kd.V_drew)); exact HL314_1.out) hb)
            replace BK311 := bb_ BK311 hb
            replace BK313 := bb_ BK313 hb
            replace HR314_0 := Aside0.mk (Kd.C_below (by repeat (first | (with_reducible exact HR314_0.out) | (with_reducible refine Kd.C_alloc ?_ _) | (with_reducible refine Kd.C_drewN ?_ _) | (with_reducible refine Kd.C_drew ?_) | exact HR314_0.out)) hb)
            replace HR314_1 := Aside0.mk (Kd.C_below (by repeat (first | (with_reducible exact HR314_1.out) | (with_reducible refine Kd.C_alloc ?_ _) | (with_reducible refine Kd.C_drewN ?_ _) | (with_reducible refine Kd.C_drew ?_) | exact HR314_1.out)) hb)
            replace HB := b1_ hb
            clear hb
            refine hK.out _ _ ⟨cz0_ BK313, cz1_ BK313, HS2_, HS3_⟩ (fun hHeld => ?_)
            clear hK K
            refine no_ (some 26) ?_
            refine pu_ 7 (some 27) (bl_ 8 255) HT_ ?_
            refine done_ (done_of HT_.out (by kernel_rfl)) ?_
            have p316 : 0 ≤ (x6_1 : Int) := of_decide_eq_true qe_
            have q316 : x6_1 < (l0.length : Int) := of_decide_eq_true qe_
            obtain ⟨ad316, A316_0, c316_0, A316_1, c316_1, e316, hx316_0, hx316_1, hl316_0, hi316_0, hl316_1, hi316_1⟩ := at_T25 (Kd.V_reads' HO_0.out).2.2 x6_1 p316 q316
            obtain rfl : ad312 = ad316 := (by injection e316)
            have e0_ := Option.some.inj (hx316_0.symm.trans hHeld.2.2.1)
            injection e0_ with f1_ f2_ f3_
            have e1_ := Option.some.inj (hx316_1.symm.trans hHeld.2.2.2)
            injection e1_ with f4_ f5_ f6_
            subst f1_ f3_ f4_ f6_
            clear f2_ f5_
            obtain ⟨ce316, hce316, hMe316, hcc316⟩ := Kd.V_get HO_0.out z25 x6_1 p316 (by first | exact q316 | exact of_decide_eq_true qe_ | (have e_ := (Kd.V_reads' HO_0.out).1; omega))
            obtain ⟨ua316_0, uc316_0, ua316_1, uc316_1, rfl, ul316_0, ge316_0, ul316_1, ge316_1⟩ := k25_openF hMe316
            have hv316_0 := hcc316 0 _ rfl
            rw [Nat.add_zero] at hv316_0
            replace hv316_0 := Option.some.inj (hv316_0.symm.trans hx316_0)
            injection hv316_0 with hva_ hvn_ hvc_
            rw [hva_] at ge316_0
            rw [hvc_] at ul316_0
            have HL316_0 := Aside0.mk (show Kd.V (Kd.int .i64) 3 _ w.heap.size _ _ ((rd_T25 l0 x6_1).f0) from Kd.V_mk ul316_0 ge316_0)
            clear hva_ hvn_ hvc_ ge316_0 ul316_0
            have hv316_1 := hcc316 1 _ rfl
            rw [add_field _ _ 1 (by omega)] at hv316_1
            replace hv316_1 := Option.some.inj (hv316_1.symm.trans hx316_1)
            injection hv316_1 with hva_ hvn_ hvc_
            rw [hva_] at ge316_1
            rw [hvc_] at ul316_1
            have HL316_1 := Aside0.mk (show Kd.V (Kd.int .i64) 3 _ w.heap.size _ _ ((rd_T25 l0 x6_1).f1) from Kd.V_mk ul316_1 ge316_1)
            clear hva_ hvn_ hvc_ ge316_1 ul316_1
            clear hcc316 hce316
            have HJ316 := Aside0.mk (atJ_of HS0.out hB_ x6_1 p316 q316 hx316_0 hx316_1)
            have HR316_0 := Aside0.mk hi316_0
            have HC316_0 := Aside0.mk hl316_0
            clear hi316_0 hl316_0
            have HR316_1 := Aside0.mk hi316_1
            have HC316_1 := Aside0.mk hl316_1
            clear hi316_1 hl316_1
            replace p316 := eq_true p316
            replace q316 := eq_true q316
            have hnb16 := NB313_311.out
            have hnc16 := NB311_313.out
            obtain ⟨hcz17_0, hcz17_1, hfz17_0, hfz17_1⟩ := c2_ BK313
            try go_wp2
            go_roundg k1
            case measure => have := HK1.out; omega
            case rel => exact ⟨(wrap64 (x6_1 + 1)), ((rd_T25 l0 x6_1).f0), ((rd_T25 l0 x6_1).f1), (.slice A316_0 ((rd_T25 l0 x6_1).f0).length c316_0), (.slice A316_1 ((rd_T25 l0 x6_1).f1).length c316_1), qc_, H', ⟨by have := HK1.out; omega⟩, ⟨by (with_reducible repeat (first | apply Kd.V_alloc | apply Kd.V_drewN | apply Kd.V_drew)); exact Kd.V_mono (Kd.V_far (p := ⟨gb313, 1, none⟩) (Kd.V_far (p := ⟨gb313, 0, none⟩) (Kd.V_mono HO_0.out (fun k_ hk => (⟨hk, hk.2.2⟩ : _ ∧ k_ ≠ gb313))) (fun _ hk => hk.2) (.slice A316_0 ((rd_T25 l0 x6_1).f0).length c316_0)) (fun _ hk => hk.2) (.slice A316_1 ((rd_T25 l0 x6_1).f1).length c316_1)) (fun _ hk => ⟨hk.1.1, ⟨hk.1.2.1, hk.1.2.2⟩⟩)⟩, ⟨by (with_reducible repeat (first | apply Kd.V_alloc | apply Kd.V_drewN | apply Kd.V_drew)); exact Kd.V_mono (Kd.V_far (p := ⟨gb313, 1, none⟩) (Kd.V_far (p := ⟨gb313, 0, none⟩) (Kd.V_mono HL316_0.out (fun k_ hk => (⟨hk, hk.2.2⟩ : _ ∧ k_ ≠ gb313))) (fun _ hk => hk.2) (.slice A316_0 ((rd_T25 l0 x6_1).f0).length c316_0)) (fun _ hk => hk.2) (.slice A316_1 ((rd_T25 l0 x6_1).f1).length c316_1)) (fun _ hk => ⟨hk.1.1, ⟨hk.1.2.1, hk.1.2.2⟩⟩)⟩, ⟨by (with_reducible repeat (first | apply Kd.V_alloc | apply Kd.V_drewN | apply Kd.V_drew)); exact Kd.V_mono (Kd.V_far (p := ⟨gb313, 1, none⟩) (Kd.V_far (p := ⟨gb313, 0, none⟩) (Kd.V_mono HL316_1.out (fun k_ hk => (⟨hk, hk.2.2⟩ : _ ∧ k_ ≠ gb313))) (fun _ hk => hk.2) (.slice A316_0 ((rd_T25 l0 x6_1).f0).length c316_0)) (fun _ hk => hk.2) (.slice A316_1 ((rd_T25 l0 x6_1).f1).length c316_1)) (fun _ hk => ⟨hk.1.1, ⟨hk.1.2.1, hk.1.2.2⟩⟩)⟩, ⟨by (with_reducible repeat (first | refine blk_drewN ?_ _ | refine blk_drew ?_ | refine blk_alloc ?_ _)); refine blk_far ?_ NB311_313.out _; (with_reducible repeat (first | refine blk_drewN ?_ _ | refine blk_drew ?_ | refine blk_alloc ?_ _)); refine blk_far ?_ NB311_313.out _; (with_reducible repeat (first | refine blk_drewN ?_ _ | refine blk_drew ?_ | refine blk_alloc ?_ _)); exact BK311.out⟩, ⟨qp_⟩, ⟨hB_⟩, HJ316⟩
          · rw [if_neg c11] at H
            have c11b0 := decide_eq_false c11
            clear c11
            have H' := Aside0.mk H
            clear H
            try go_wp2
            replace HO_0 := Aside0.mk (Kd.V_drew HO_0.out)
            replace HO_314000 := Aside0.mk (Kd.V_drew HO_314000.out)
            replace HO_314001 := Aside0.mk (Kd.V_drew HO_314001.out)
            replace BK311 := Aside0.mk (blk_drew BK311.out)
            replace BK313 := Aside0.mk (blk_drew BK313.out)
            replace HB := Aside0.mk (below_drew1 HB.out)
            have p314 : 0 ≤ (x6_1 : Int) := of_decide_eq_true qe_
            have q314 : x6_1 < (l0.length : Int) := of_decide_eq_true qe_
            obtain ⟨ad314, A314_0, c314_0, A314_1, c314_1, e314, hx314_0, hx314_1, hl314_0, hi314_0, hl314_1, hi314_1⟩ := at_T25 (Kd.V_reads' HO_0.out).2.2 x6_1 p314 q314
            obtain rfl : ad312 = ad314 := (by injection e314)
            obtain ⟨ce314, hce314, hMe314, hcc314⟩ := Kd.V_get HO_0.out z25 x6_1 p314 (by first | exact q314 | exact of_decide_eq_true qe_ | (have e_ := (Kd.V_reads' HO_0.out).1; omega))
            obtain ⟨ua314_0, uc314_0, ua314_1, uc314_1, rfl, ul314_0, ge314_0, ul314_1, ge314_1⟩ := k25_openF hMe314
            have hv314_0 := hcc314 0 _ rfl
            rw [Nat.add_zero] at hv314_0
            replace hv314_0 := Option.some.inj (hv314_0.symm.trans hx314_0)
            injection hv314_0 with hva_ hvn_ hvc_
            rw [hva_] at ge314_0
            rw [hvc_] at ul314_0
            have HL314_0 := Aside0.mk (show Kd.V (Kd.int .i64) 3 _ w.heap.size _ _ ((rd_T25 l0 x6_1).f0) from Kd.V_mk ul314_0 ge314_0)
            clear hva_ hvn_ hvc_ ge314_0 ul314_0
            have hv314_1 := hcc314 1 _ rfl
            rw [add_field _ _ 1 (by omega)] at hv314_1
            replace hv314_1 := Option.some.inj (hv314_1.symm.trans hx314_1)
            injection hv314_1 with hva_ hvn_ hvc_
            rw [hva_] at ge314_1
            rw [hvc_] at ul314_1
            have HL314_1 := Aside0.mk (show Kd.V (Kd.int .i64) 3 _ w.heap.size _ _ ((rd_T25 l0 x6_1).f1) from Kd.V_mk ul314_1 ge314_1)
            clear hva_ hvn_ hvc_ ge314_1 ul314_1
            clear hcc314 hce314
            have HJ314 := Aside0.mk (atJ_of HS0.out hB_ x6_1 p314 q314 hx314_0 hx314_1)
            have HR314_0 := Aside0.mk hi314_0
            have HC314_0 := Aside0.mk hl314_0
            clear hi314_0 hl314_0
            have HR314_1 := Aside0.mk hi314_1
            have HC314_1 := Aside0.mk hl314_1
            clear hi314_1 hl314_1
            replace p314 := eq_true p314
            replace q314 := eq_true q314
            obtain ⟨Ao19, co19, eo19⟩ := Kd.V_slice HO_314000.out
            (first | subst eo19 | (injection eo19 with f1_ f2_ f3_; have f4_ := f1_.symm; have f5_ := f3_.symm; clear f1_ f2_ f3_; subst f4_; subst f5_))
            obtain ⟨Ao20, co20, eo20⟩ := Kd.V_slice HO_314001.out
            (first | subst eo20 | (injection eo20 with f1_ f2_ f3_; have f4_ := f1_.symm; have f5_ := f3_.symm; clear f1_ f2_ f3_; subst f4_; subst f5_))
            refine start_ (n := 8) (S := fun w' => w'.cell? ⟨gb313, 0, none⟩ = some (.slice Ao19 x314000_1.length co19) ∧ w'.cell? ⟨gb313, 1, none⟩ = some (.slice Ao20 x314001_1.length co20) ∧ w'.cell? (ad312.add ((x6_1).toNat * 2)) = some (.slice A314_0 ((rd_T25 l0 x6_1).f0).length c314_0) ∧ w'.cell? ⟨(ad312.add ((x6_1).toNat * 2)).block, (ad312.add ((x6_1).toNat * 2)).off + 1, none⟩ = some (.slice A314_1 ((rd_T25 l0 x6_1).f1).length c314_1)) (ds := []) (bl_ 8 0) (by kernel_rfl) rfl (by kernel_rfl) ⟨cz0_ BK313, cz1_ BK313, hx314_0, hx314_1⟩ (fun hHeld => ?_); refine with_tabW impl_Surface_76.tab7 impl_Surface_76.bits7 (fun HT_ HW_ => ?_)
            generalize wr.drew = w18 at HO_0 HO_314000 HO_314001 BK311 BK313 HB HL314_0 HL314_1 HR314_0 HR314_1 hx314_0 hx314_1 hHeld ⊢
            refine pu_ 0 (some 20) (bl_ 8 1) HT_ ?_
            refine pu_ 1 (some 21) (bl_ 8 3) HT_ ?_
            refine pu_ 2 (some 22) (bl_ 8 7) HT_ ?_
            refine pu_ 3 (some 23) (bl_ 8 15) HT_ ?_
            refine ta_ 4 (some 24) (bl_ 8 31) HT_ HW_ hHeld ?_
            refine ta_ 5 (some 25) (bl_ 8 63) HT_ HW_ hHeld ?_
            refine on_ 6 (some 26) (bl_ 8 127) HT_ (fun K hK => ?_)
            refine goesF_ Try.func77 (by kernel_rfl) rfl #[.agg #[.slice A314_0 ((rd_T25 l0 x6_1).f0).length c314_0, .slice A314_1 ((rd_T25 l0 x6_1).f1).length c314_1], .agg #[.slice Ao19 x314000_1.length co19, .slice Ao20 x314001_1.length co20]] (by rfl) rfl rfl qa_ ?_
            with_reducible refine (impl_compareSurfaces.calls k1 _ _ ((rd_T25 l0 x6_1).f0) _ _ ((rd_T25 l0 x6_1).f1) _ _ x314000_1 _ _ x314001_1 t315 _ ?side1 ?side2 ?side3 ?side4 ?side5 ?side6 ?side7 ?side8 A10.out).mono ?_
            (case side1 => repeat (first | exact (by repeat (first | (with_reducible exact HR314_0.out) | (with_reducible refine Kd.C_alloc ?_ _) | (with_reducible refine Kd.C_drewN ?_ _) | (with_reducible refine Kd.C_drew ?_) | exact HR314_0.out)) | (with_reducible refine Kd.C_alloc ?_ _) | (with_reducible refine Kd.C_drewN ?_ _) | (with_reducible refine Kd.C_drew ?_)))
            (case side2 => exact HC314_0.out)
            (case side3 => repeat (first | exact (by repeat (first | (with_reducible exact HR314_1.out) | (with_reducible refine Kd.C_alloc ?_ _) | (with_reducible refine Kd.C_drewN ?_ _) | (with_reducible refine Kd.C_drew ?_) | exact HR314_1.out)) | (with_reducible refine Kd.C_alloc ?_ _) | (with_reducible refine Kd.C_drewN ?_ _) | (with_reducible refine Kd.C_drew ?_)))
            (case side4 => exact HC314_1.out)
            (case side5 => exact cw_ ((Kd.V_reads' HO_314000.out).2.2))
            (case side6 => exact (Kd.V_reads' HO_314000.out).2.1)
            (case side7 => exact cw_ ((Kd.V_reads' HO_314001.out).2.2))
            (case side8 => exact (Kd.V_reads' HO_314001.out).2.1)
            rintro e w21 ⟨rfl, hb⟩
            have HS2_ := (hb.cell (World.block_lt_of_cell? _ _ (hHeld.2.2.1))).trans (hHeld.2.2.1)
            have HS3_ := (hb.cell (World.block_lt_of_cell? _ _ (hHeld.2.2.2))).trans (hHeld.2.2.2)
            refine ⟨_, rfl, ?_⟩
            replace HO_0 := Aside0.mk (Kd.V_below (by (with_reducible repeat (first | apply Kd.V_alloc | apply Kd.V_drewN | apply Kd.V_drew)); exact HO_0.out) hb)
            replace HO_314000 := Aside0.mk (Kd.V_below (by (with_reducible repeat (first | apply Kd.V_alloc | apply Kd.V_drewN | apply Kd.V_drew)); exact HO_314000.out) hb)
            replace HO_314001 := Aside0.mk (Kd.V_below (by (with_reducible repeat (first | apply Kd.V_alloc | apply Kd.V_drewN | apply Kd.V_drew)); exact HO_314001.out) hb)
            replace HL314_0 := Aside0.mk (Kd.V_below (by (with_reducible repeat (first | apply Kd.V_alloc | apply Kd.V_drewN | apply Kd.V_drew)); exact HL314_0.out) hb)
            replace HL314_1 := Aside0.mk (Kd.V_below (by (with_reducible repeat (first | apply Kd.V_alloc | apply Kd.V_drewN | apply Kd.V_drew)); exact HL314_1.out) hb)
            replace BK311 := bb_ BK311 hb
            replace BK313 := bb_ BK313 hb
            replace HR314_0 := Aside0.mk (Kd.C_below (by repeat (first | (with_reducible exact HR314_0.out) | (with_reducible refine Kd.C_alloc ?_ _) | (with_reducible refine Kd.C_drewN ?_ _) | (with_reducible refine Kd.C_drew ?_) | exact HR314_0.out)) hb)
            replace HR314_1 := Aside0.mk (Kd.C_below (by repeat (first | (with_reducible exact HR314_1.out) | (with_reducible refine Kd.C_alloc ?_ _) | (with_reducible refine Kd.C_drewN ?_ _) | (with_reducible refine Kd.C_drew ?_) | exact HR314_1.out)) hb)
            replace HB := b1_ hb
            clear hb
            refine hK.out _ _ ⟨cz0_ BK313, cz1_ BK313, HS2_, HS3_⟩ (fun hHeld => ?_)
            clear hK K
            refine no_ (some 26) ?_
            refine pu_ 7 (some 27) (bl_ 8 255) HT_ ?_
            refine done_ (done_of HT_.out (by kernel_rfl)) ?_
            try go_wp2
            go_roundg k1
            case measure => have := HK1.out; omega
            case rel => exact ⟨(wrap64 (x6_1 + 1)), (x314000_1), (x314001_1), (.slice Ao19 x314000_1.length co19), (.slice Ao20 x314001_1.length co20), qc_, H', ⟨by have := HK1.out; omega⟩, ⟨by (with_reducible repeat (first | apply Kd.V_alloc | apply Kd.V_drewN | apply Kd.V_drew)); exact HO_0.out⟩, ⟨by (with_reducible repeat (first | apply Kd.V_alloc | apply Kd.V_drewN | apply Kd.V_drew)); exact HO_314000.out⟩, ⟨by (with_reducible repeat (first | apply Kd.V_alloc | apply Kd.V_drewN | apply Kd.V_drew)); exact HO_314001.out⟩, ⟨(kk_ BK311)⟩, ⟨(kk_ BK313)⟩, ⟨hB_⟩, HJ⟩
        · rw [if_neg c8] at H
          have c8b0 := decide_eq_false c8
          clear c8
          simp only [Option.some.injEq, Prod.mk.injEq] at H
          obtain ⟨rfl, rfl⟩ := H
          have hnb22 := NB313_311.out
          have hnc22 := NB311_313.out
          obtain ⟨hcz23_0, hcz23_1, hfz23_0, hfz23_1⟩ := c2_ BK313
          obtain ⟨Ao24, co24, eo24⟩ := Kd.V_slice HO_314000.out
          subst eo24
          obtain ⟨hcz25_0, hcz25_1, hfz25_0, hfz25_1⟩ := c2_ BK311
          obtain ⟨Ao26, co26, eo26⟩ := Kd.V_slice HO_314001.out
          subst eo26
          go_wp2
          refine bodyPost_ret (results_cell_row rfl _ _ gb311 25 #[.slice Ao24 x314000_1.length co24, .slice Ao26 x314001_1.length co26] (0, 0) _ rfl qp_ Try.underlying25 rfl (by kernel_rfl)) rfl ?_
          exact ⟨_, _, qb_, by (with_reducible repeat (first | apply Kd.V_alloc | apply Kd.V_drewN | apply Kd.V_drew)); exact Kd.V_mono (Kd.V_far (p := ⟨gb311, 1, none⟩) (Kd.V_far (p := ⟨gb311, 0, none⟩) (Kd.V_mono HO_314000.out (fun k_ hk => (⟨hk, hk.2.1⟩ : _ ∧ k_ ≠ gb311))) (fun _ hk => hk.2) (.slice Ao24 x314000_1.length co24)) (fun _ hk => hk.2) (.slice Ao26 x314001_1.length co26)) (fun _ hk => hk.1.1), by (with_reducible repeat (first | apply Kd.V_alloc | apply Kd.V_drewN | apply Kd.V_drew)); exact Kd.V_mono (Kd.V_far (p := ⟨gb311, 1, none⟩) (Kd.V_far (p := ⟨gb311, 0, none⟩) (Kd.V_mono HO_314001.out (fun k_ hk => (⟨hk, hk.2.1⟩ : _ ∧ k_ ≠ gb311))) (fun _ hk => hk.2) (.slice Ao24 x314000_1.length co24)) (fun _ hk => hk.2) (.slice Ao26 x314001_1.length co26)) (fun _ hk => hk.1.1), hB_, HJ.out⟩
end Go.Proofs.Ytcggfjpnfodbaaa.A
end
