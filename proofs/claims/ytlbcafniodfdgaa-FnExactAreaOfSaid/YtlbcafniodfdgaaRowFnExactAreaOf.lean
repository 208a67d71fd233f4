/- The law FnExactAreaOf of the program holds: for every input it returns true, and each argument reads behind the call as it read before. No conditions. -/
import Derived.Test.YtlbcafniodfdgaaQFnExactAreaOf1
import Derived.Test.YtlbcafniodfdgaaRows
import Derived.WalkKit
import Derived.ProofKit
import Derived.OpenShut
import Derived.ShutString
import Derived.ChangeOld
import Derived.Below
import Derived.SizedLaws
import Derived.Carry
import Derived.Lib.SmallJoins
import Derived.Deep.Slices
import Derived.Deep.Fields
import Derived.ChangeSame
namespace Go.Proofs.Ytlbcafniodfdgaa.fnExactAreaOf
open Go.ChangeShapes Go.WideShapes Go.ChangeAt Go.RowKit
open Go.ChangeMaps (open_string shut_string)
open Go.Proofs.YtlbcafniodfdgaaW.PrintWords Go.Proofs.YtlbcafniodfdgaaW.PrintLast
set_option linter.unusedVariables false
set_option linter.unusedSimpArgs false
theorem own : ownKnob Try.prog.godebug = none := by kernel_rfl
theorem laidOut : laidOutB Try.prog = true := by kernel_rfl
def IsRow (k : IntKind) (w : World) (a : Option Addr) (len cap : Nat) (zs : List Int) : Prop :=
  (a = none ∧ len = 0 ∧ cap = 0 ∧ zs = []) ∨
  ∃ x, a = some x ∧ len ≤ cap ∧ cap ≤ maxLen ∧ zs.length = cap ∧ (∀ i, i < zs.length → w.cell? (x.add i) = some (.int k (zs.getD i 0))) ∧ ∀ n ∈ zs, (Lit.int k n).wf = true
theorem two_of {α : Type} : ∀ {l : List α}, l.length = 2 → ∃ x y, l = [x, y]
  | [x, y], _ => ⟨x, y, rfl⟩
theorem pick {α : Type} (n : Nat) (Q : Nat → α → Prop) (h : ∀ i, i < n → ∃ x, Q i x) : ∃ l : List α, l.length = n ∧ ∀ i x, l[i]? = some x → Q i x := by
  induction n with
  | zero => exact ⟨[], rfl, fun i x h => by simp at h⟩
  | succ n ih =>
    obtain ⟨l, hl, hq⟩ := ih (fun i hi => h i (by omega))
    obtain ⟨x, hx⟩ := h n (by omega)
    refine ⟨l ++ [x], by simp [hl], fun i y hy => ?_⟩
    rw [List.getElem?_append] at hy
    split at hy
    · exact hq i y hy
    · rename_i hn
      have : i - l.length = 0 := by
        have := (List.getElem?_eq_some_iff.mp hy).1
        simp at this
        omega
      rw [this] at hy
      have e : x = y := by simpa using hy
      subst e
      have : i = n := by omega
      rw [this]
      exact hx
open Go.Proofs.Ytlbcafniodfdgaa.A in
theorem open_pairs {H : Type} {enc : TypeId × Value → H} {w : World} {base : Nat} {spare : Nat → Bool} {held : Bool} {t ti : TypeId} {f0 f1 : Field} {fuel : Nat} {a : Option Addr} {len cap : Nat} {x : DataW H × List MemPlace} (ht : Try.prog.underlying t = some (.slice 67)) (he : Try.prog.underlying 67 = some (.struct #[f0, f1])) (hone : Go.Deep.oneCellFields Try.prog #[f0, f1] = true) (hC : Try.prog.cellsOf 67 = 2) (hi : Try.prog.underlying ti = some (.int .i64))
    (h : DataW.trod enc Try.prog w base spare held fuel t (Value.slice a len cap).cells.toList = some x) (h0 : f0.type = ti := by rfl) (h1 : f1.type = ti := by rfl) : ∃ l : List S67, len = l.length ∧ Kd.C k67 w a l.length l ∧ l.length ≤ 9223372036854775807 ∧ l.length ≤ cap := by
  rcases Go.Deep.open_slice ht h with ⟨hcs, _⟩ | ⟨ad, len', cap', m, n, D, Pl, hcs, hb, hl, hm, hmm, hx, hf⟩
  · simp [Value.cells] at hcs
    obtain ⟨rfl, rfl, rfl⟩ := hcs
    exact ⟨[], rfl, ⟨rfl, by simp, fun h => by simp at h⟩, by simp, by simp⟩
  · simp [Value.cells] at hcs
    obtain ⟨rfl, rfl, rfl⟩ := hcs
    have hlm : len ≤ m := by rw [hmm]; split <;> omega
    unfold maxLen at hm
    obtain ⟨l, hll, hq⟩ := pick len (fun i (y : S67) => w.cell? (ad.add (i * 2)) = some (.int .i64 y.f0) ∧ w.cell? (ad.add (i * 2 + 1)) = some (.int .i64 y.f1)) (fun i hi' => by
      obtain ⟨cs', hc, ht'⟩ := hf i (by omega)
      obtain ⟨y0, y1, n', _, hlen, t0, t1⟩ := trod_struct2 he ht'
      rw [hC] at hlen
      obtain ⟨_, hcl, hat⟩ := World.cells?_some hc
      rw [hC] at hcl hat
      obtain ⟨o0, q0⟩ := Go.Deep.hone_of hone 0 f0 rfl
      obtain ⟨o1, q1⟩ := Go.Deep.hone_of hone 1 f1 rfl
      obtain ⟨u0, u1, rfl⟩ := two_of hlen
      rw [o0, q0, h0] at t0
      rw [o1, q1, h1] at t1
      obtain ⟨b0, e0, _, _⟩ := DataW.trod_int hi t0
      obtain ⟨b1, e1, _, _⟩ := DataW.trod_int hi t1
      have e0' : u0 = .int .i64 b0 := by simpa using e0
      have e1' : u1 = .int .i64 b1 := by simpa using e1
      have c0 := hat 0 (by omega)
      have c1 := hat 1 (by omega)
      rw [Go.Deep.add_add] at c0 c1
      exact ⟨⟨b0, b1⟩, by simpa [e0'] using c0, by simpa [e1'] using c1⟩)
    subst hll
    refine ⟨l, rfl, ⟨rfl, by omega, fun _ => ⟨ad, rfl, fun j p hj => ?_⟩⟩, by omega, by omega⟩
    obtain ⟨c0, c1⟩ := hq j p hj
    refine ⟨[.int .i64 p.f0, .int .i64 p.f1], rfl, k67_mk w p, fun i u hu => ?_⟩
    match i, hu with
    | 0, hu => exact (by simpa using hu) ▸ c0
    | 1, hu => exact (by simpa using hu) ▸ c1
set_option maxRecDepth 100000 in
theorem lifted (os : Os) (started : os.Started) (H : Type) (enc : TypeId × Value → H) :
    ReturnsInHanded {} Try.checked os 3 .any (Rows.fnExactAreaOfSpec.pre6 enc Try.prog Try.f3 Rows.fnExactAreaOfRow.domain false) (Rows.fnExactAreaOfSpec.post enc Try.prog Try.f3 false true false false) := by
  refine returnsInHanded_of_change_sized (C := Try.checked) own started (by kernel_rfl) Try.func3
    (ChangeSpec.witness6 (enc := enc) (C := Try.checked) false ⟨#[], #[.slice none 0 0], []⟩ 8 (by kernel_rfl) (by kernel_rfl) (by kernel_rfl) (by kernel_rfl)) ?_
  intro W base args ds gs before hval0 hW hcnd hsz0 _
  have hsz : (DataW.weightsEach Try.prog (Try.f3.params.toList ++ Rows.fnExactAreaOfSpec.plain.varTypes Try.prog) (ds ++ gs)).all (· ≤ reachBytes) = true := hsz0
  have hval : ∀ (j : Nat) t v, Try.f3.params[j]? = some t → args[j]? = some v → Value.okWide Try.prog W .any base t v := hval0
  have hW' := hW
  obtain ⟨p, q, hA0, hV, rfl, hfz, hnd⟩ := hW
  have hA : DataW.TrodAll enc Try.prog W 0 (fun _ => true) true Try.f3.params.toList args.toList ds p := hA0
  rw [Try.params3] at hA hval hsz
  obtain ⟨v0, vs0, d0, ds0, p0, q0, hargs, rfl, rfl, h0, r0⟩ := trodAll_cons hA
  obtain ⟨rfl, rfl, rfl⟩ := trodAll_nil r0
  obtain rfl : args = #[v0] := by cases args; simp_all
  obtain ⟨rfl, rfl⟩ := trodVars_none hV
  have k0 := h0
  have lt0 : ∀ x ∈ p0, x.block < W.heap.size := by obtain ⟨m, hm⟩ := k0; exact DataW.trod_lt m _ _ _ hm
  obtain ⟨a0, len0, cap0, rfl⟩ := okWide_slice Try.underlying22 (hval 0 22 v0 rfl rfl)
  obtain ⟨fuel0, hf0⟩ := h0
  obtain ⟨l0, rfl, hr0, hm0, hc0⟩ := open_pairs Try.underlying22 Try.underlying67 (by kernel_rfl) (by kernel_rfl) Try.underlying3 hf0
  clear hA0 hval0 hsz0 hsz
  obtain ⟨k, h⟩ := Pure.FnExactAreaOf l0 hm0
  refine (A.laws_FnExactAreaOf.calls k _ _ l0 true W hr0 hc0 h ⟨rfl⟩).mono fun e W' ⟨he, bel0⟩ => ?_
  have bel : Below W.heap.size W W' := bel0
  subst he
  exact ⟨_, rfl, _, _, _, [], _, [], hW', trodAll_mk1 (shut_bool Try.underlying4 _), (trodAll_cons_mk (Below.trod laidOut (by kernel_rfl) (of_decide_eq_true (by kernel_rfl)) k0 bel lt0) trodAll_mk0), rfl, bel.frame _, fun h => by cases h⟩
theorem over : Rows.fnExactAreaOfRow.holds Try.pinned (OpenSpec.ofChange Rows.fnExactAreaOfSpec) :=
  OpenClaim.holds_of_wide 3 Try.f3 rfl rfl rfl rfl rfl rfl rfl ⟨rfl, rfl, rfl, rfl, rfl⟩ rfl rfl rfl rfl rfl (by kernel_rfl) Try.func3 (by kernel_rfl)
    (of_decide_eq_true (by kernel_rfl)) (by unfold Func.isWrapper; first | (rw [if_pos (by decide +kernel)]; kernel_rfl) | (rw [if_neg (by decide +kernel)]; exact ⟨rfl, rfl⟩))
    (fun os started H enc _ => lifted os started H enc)
theorem proved : Rows.FnExactAreaOfSaid := over
end Go.Proofs.Ytlbcafniodfdgaa.fnExactAreaOf
namespace Go.Proofs.Ytlbcafniodfdgaa
/-- The row, under a short name, for the claim. -/
theorem fnExactAreaOf_holds : Rows.FnExactAreaOfSaid := fnExactAreaOf.proved
#print axioms fnExactAreaOf_holds
end Go.Proofs.Ytlbcafniodfdgaa
