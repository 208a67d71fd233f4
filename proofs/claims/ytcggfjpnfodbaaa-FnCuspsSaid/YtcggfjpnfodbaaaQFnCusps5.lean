/- Lemmas for the row FnCusps: the program's functions told as plain functions, and plain mathematics. No conditions. -/
import Derived.Test.YtcggfjpnfodbaaaQFnCusps4
section
/- Words of letters: the program and the reference act alike. No conditions. -/
namespace Go.Proofs.Ytcggfjpnfodbaaa.M
set_option linter.unusedVariables false
set_option linter.unusedSimpArgs false
open Go.RowKit Go.Proofs.YtcggfjpnfodbaaaW.PrintWords Go.Proofs.YtcggfjpnfodbaaaW.PrintLast Go.Proofs.YtcggfjpnfodbaaaW.PrintMore Go.Proofs.Ytcggfjpnfodbaaa.A
def lt (c : Int) (s : List Nat × List Nat) : List Nat × List Nat := if c = 84 then (s.1, thn (inv s.1) s.2) else if c = 116 then (s.1, thn s.1 s.2) else if c = 83 then (inv s.2, s.1) else (s.2, inv s.1)
theorem sf_lt {s : List Nat × List Nat} (hs : Sf s.1 s.2) (c : Int) : Sf (lt c s).1 (lt c s).2 ∧ (lt c s).1.length = s.1.length := by
 unfold lt
 split
 ·exact ⟨sf_T hs, rfl⟩
 ·split
  ·exact ⟨sf_t hs, rfl⟩
  ·split
   ·exact ⟨sf_S hs, by show (inv s.2).length = _; rw [inv_len, hs.eq]⟩
   ·exact ⟨sf_s hs, hs.eq⟩
def rn (w : ByteArray) (s : List Nat × List Nat) : Nat → List Nat × List Nat
 | 0 => s
 | j + 1 => lt (bt w (j : Int)) (rn w s j)
def letB (c : Int) : Bool := decide (c = 84 ∨ c = 116 ∨ c = 83 ∨ c = 115)
def wordB (w : ByteArray) : Bool := decide ((∀ j, j < w.size → letB (bt w (j : Int)) = true) ∧ w.size ≤ 40)
theorem copy_ev (l : List Int) (h : l.length ≤ 1000000) : Z38.f l = some l := by
 unfold Z38.f
 have c1 : ([] : List Int).length + l.length < 17592186044416 := by simp; omega
 simp only [Option.bind_some, c1, if_true, List.nil_append]
theorem impl_letter {s : List Nat × List Nat} (hs : Sf s.1 s.2) (c : Int) (hc : letB c = true) : Ev (fun k => Z11.f k (I s.1) (I s.2) c) (I (lt c s).1, I (lt c s).2) := by
 have hle := hs.le
 have heq := hs.eq
 have h0 := surfB_I.mpr hs
 have k1 := copy_ev (I s.1) (by rw [I_len]; omega)
 have k2 := copy_ev (I s.2) (by rw [I_len]; omega)
 have hc := of_decide_eq_true hc
 unfold Z11.f lt
 by_cases h1 : c = 84
 ·simp only [h1, if_true]
  refine Ev.bind (a := (I s.1, I (thn (inv s.1) s.2), true)) ?_ (Ev.now _)
  unfold Z15.f
  refine Ev.bind (impl_surf _ _) ?_
  simp only [h0, k1, if_true, Option.bind_some]
  exact Ev.bind (impl_inv hs.pr hs.le) (Ev.bind (impl_then (isP_inv hs.pr) hs.pu (by rw [inv_len, hs.eq]) (by rw [inv_len]; exact hs.le)) (Ev.now _))
 ·by_cases h2 : c = 116
  ·have n1 : ¬ ((116 : Int) = 84) := by omega
   simp only [h2, n1, if_true, if_false]
   refine Ev.bind (a := (I s.1, I (thn s.1 s.2), true)) ?_ (Ev.now _)
   unfold Z7.f
   refine Ev.bind (impl_surf _ _) ?_
   simp only [h0, k1, if_true, Option.bind_some]
   exact Ev.bind (impl_then hs.pr hs.pu hs.eq.symm hs.le) (Ev.now _)
  ·by_cases h3 : c = 83
   ·have n1 : ¬ ((83 : Int) = 84) := by omega
    have n2 : ¬ ((83 : Int) = 116) := by omega
    simp only [h3, n1, n2, if_true, if_false]
    refine Ev.bind (a := (I (inv s.2), I s.1, true)) ?_ (Ev.now _)
    unfold Z22.f
    refine Ev.bind (impl_surf _ _) ?_
    simp only [h0, if_true]
    refine Ev.bind (impl_inv hs.pu (by omega)) ?_
    simp only [k1, Option.bind_some]
    exact Ev.now _
   ·have h4 : c = 115 := by omega
    have n1 : ¬ ((115 : Int) = 84) := by omega
    have n2 : ¬ ((115 : Int) = 116) := by omega
    have n3 : ¬ ((115 : Int) = 83) := by omega
    simp only [h4, n1, n2, n3, if_true, if_false]
    refine Ev.bind (a := (I s.2, I (inv s.1), true)) ?_ (Ev.now _)
    unfold Z10.f
    refine Ev.bind (impl_surf _ _) ?_
    simp only [h0, k2, if_true, Option.bind_some]
    exact Ev.bind (impl_inv hs.pr hs.le) (Ev.now _)
end Go.Proofs.Ytcggfjpnfodbaaa.M
end
section
/- Surfaces that are alike; surfaces that a word keeps. No conditions. -/
namespace Go.Proofs.Ytcggfjpnfodbaaa.M
set_option linter.unusedVariables false
set_option linter.unusedSimpArgs false
open Go.RowKit Go.Proofs.YtcggfjpnfodbaaaW.PrintWords Go.Proofs.YtcggfjpnfodbaaaW.PrintLast Go.Proofs.YtcggfjpnfodbaaaW.PrintMore Go.Proofs.Ytcggfjpnfodbaaa.A
theorem impl_same (a b : List Nat × List Nat) (h1 : a.1.length ≤ 1000000) (h2 : a.2.length ≤ 1000000) : Ev (fun k => Z20.f k (I a.1) (I a.2) (I b.1) (I b.2)) (decide (a = b)) := by
 unfold Z20.f
 refine Ev.bind (equal_ev a.1 b.1 (by omega)) ?_
 by_cases h : a.1 = b.1
 ·have e : decide (a = b) = decide (a.2 = b.2) := by
   rw [decide_eq_decide, Prod.ext_iff]
   simp [h]
  rw [e]
  simp only [h, decide_true, if_true]
  exact Ev.bind (equal_ev a.2 b.2 (by omega)) (Ev.now _)
 ·have e : decide (a = b) = false := by
   rw [decide_eq_false_iff_not]
   intro e
   exact h (by rw [e])
  rw [e]
  simp only [h, decide_false, Bool.false_eq_true, if_false]
  exact Ev.now _
end Go.Proofs.Ytcggfjpnfodbaaa.M
end
section
/- All surfaces with few squares: the program and the reference list them alike. No conditions. -/
namespace Go.Proofs.Ytcggfjpnfodbaaa.M
set_option linter.unusedVariables false
set_option linter.unusedSimpArgs false
open Go.RowKit Go.Proofs.YtcggfjpnfodbaaaW.PrintWords Go.Proofs.YtcggfjpnfodbaaaW.PrintLast Go.Proofs.YtcggfjpnfodbaaaW.PrintMore Go.Proofs.Ytcggfjpnfodbaaa.A
def permN (n : Nat) : List (List Nat) := (List.range n).foldl (fun out _ => (out.map (fun p => ((List.range n).filter (fun x => decide (x ∉ p))).map (fun x => p ++ [x]))).flatten) [[]]
theorem four_cases {n : Nat} (h1 : 1 ≤ n) (h4 : n ≤ 4) : n = 1 ∨ n = 2 ∨ n = 3 ∨ n = 4 := by omega
def LS (l : List (List Nat × List Nat)) : List S25 := l.map ofN
def pr (p q : List Nat) : List (List Nat × List Nat) := if surfB (I p) (I q) = true then [canS p q] else []
theorem pr_yes {p q : List Nat} (h : surfB (I p) (I q) = true) : pr p q = [canS p q] := by unfold pr; rw [if_pos h]
def prs (P : List (List Nat)) (p : List Nat) : List (List Nat × List Nat) := P.flatMap (pr p)
def pairs (P R : List (List Nat)) : List (List Nat × List Nat) := R.flatMap (prs P)
def surfN (n : Nat) : List (List Nat × List Nat) := insAll [] (pairs (permN n) (permN n))
end Go.Proofs.Ytcggfjpnfodbaaa.M
end
section
/- Plain mathematics: surfaces that are alike by renaming. No conditions. -/
namespace Go.Proofs.Ytcggfjpnfodbaaa.M
set_option linter.unusedVariables false
set_option linter.unusedSimpArgs false
structure Is (s t : List Nat × List Nat) (f : Nat → Nat) : Prop where
 len : t.1.length = s.1.length
 lt : ∀ x, x < s.1.length → f x < s.1.length
 inj : ∀ x y, x < s.1.length → y < s.1.length → f x = f y → x = y
 r : ∀ x, x < s.1.length → f (g s.1 x) = g t.1 (f x)
 u : ∀ x, x < s.1.length → f (g s.2 x) = g t.2 (f x)
theorem Sf.gr {r u : List Nat} (hs : Sf r u) {x : Nat} (h : x < r.length) : g r x < r.length := g_lt hs.pr h
theorem Sf.gu {r u : List Nat} (hs : Sf r u) {x : Nat} (h : x < r.length) : g u x < r.length := by
 have := g_lt hs.pu (i := x) (by rw [hs.eq]; exact h)
 rw [hs.eq] at this
 exact this
theorem Sf.ir {r u : List Nat} (hs : Sf r u) {x : Nat} (h : x < r.length) : ix r x < r.length := ix_lt hs.pr h
theorem Sf.iu {r u : List Nat} (hs : Sf r u) {x : Nat} (h : x < r.length) : ix u x < r.length := by
 have := ix_lt hs.pu (x := x) (by rw [hs.eq]; exact h)
 rw [hs.eq] at this
 exact this
theorem Is.refl (s : List Nat × List Nat) : Is s s (fun x => x) := ⟨rfl, fun _ h => h, fun _ _ _ _ h => h, fun _ _ => rfl, fun _ _ => rfl⟩
theorem Is.trans {s t v : List Nat × List Nat} {f h : Nat → Nat} (a : Is s t f) (b : Is t v h) : Is s v (fun x => h (f x)) where
 len := b.len.trans a.len
 lt x hx := by have := b.lt (f x) (by rw [a.len]; exact a.lt x hx); rw [a.len] at this; exact this
 inj x y hx hy e := a.inj x y hx hy (b.inj _ _ (by rw [a.len]; exact a.lt x hx) (by rw [a.len]; exact a.lt y hy) e)
 r x hx := by show h (f (g s.1 x)) = _; rw [a.r x hx, b.r _ (by rw [a.len]; exact a.lt x hx)]
 u x hx := by show h (f (g s.2 x)) = _; rw [a.u x hx, b.u _ (by rw [a.len]; exact a.lt x hx)]
def bk (n : Nat) (f : Nat → Nat) (y : Nat) : Nat := ix (tab n f) y
theorem bk_lt {n : Nat} {f : Nat → Nat} (h1 : ∀ x, x < n → f x < n) (h2 : ∀ x y, x < n → y < n → f x = f y → x = y) {y : Nat} (hy : y < n) : bk n f y < n := by
 have := ix_lt (isP_tab h1 h2) (x := y) (by rw [tab_len]; exact hy)
 rw [tab_len] at this
 exact this
theorem f_bk {n : Nat} {f : Nat → Nat} (h1 : ∀ x, x < n → f x < n) (h2 : ∀ x y, x < n → y < n → f x = f y → x = y) {y : Nat} (hy : y < n) : f (bk n f y) = y := by
 have h := g_ix (isP_tab h1 h2) (x := y) (by rw [tab_len]; exact hy)
 have hb : ix (tab n f) y < n := bk_lt h1 h2 hy
 rw [g_tab hb] at h
 exact h
theorem bk_f {n : Nat} {f : Nat → Nat} (h1 : ∀ x, x < n → f x < n) (h2 : ∀ x y, x < n → y < n → f x = f y → x = y) {x : Nat} (hx : x < n) : bk n f (f x) = x :=
 h2 _ _ (bk_lt h1 h2 (h1 x hx)) hx (f_bk h1 h2 (h1 x hx))
theorem Is.symm {s t : List Nat × List Nat} {f : Nat → Nat} (hs : Sf s.1 s.2) (a : Is s t f) : Is t s (bk s.1.length f) where
 len := a.len.symm
 lt y hy := by rw [a.len] at hy ⊢; exact bk_lt a.lt a.inj hy
 inj y z hy hz e := by
  rw [a.len] at hy hz
  rw [← f_bk a.lt a.inj hy, ← f_bk a.lt a.inj hz, e]
 r y hy := by
  rw [a.len] at hy
  have hb := bk_lt a.lt a.inj hy
  have e : g t.1 y = f (g s.1 (bk s.1.length f y)) := by rw [a.r _ hb, f_bk a.lt a.inj hy]
  rw [e, bk_f a.lt a.inj (hs.gr hb)]
 u y hy := by
  rw [a.len] at hy
  have hb := bk_lt a.lt a.inj hy
  have e : g t.2 y = f (g s.2 (bk s.1.length f y)) := by rw [a.u _ hb, f_bk a.lt a.inj hy]
  rw [e, bk_f a.lt a.inj (hs.gu hb)]
theorem g_map {l : List Nat} {f : Nat → Nat} {i : Nat} (h : i < l.length) : g (l.map f) i = f (g l i) := by
 rw [g_get (by rw [List.length_map]; exact h), g_get h, List.getElem_map]
theorem st1_map {out : List Nat} {f : Nat → Nat} {n x : Nat} (inj : ∀ x y, x < n → y < n → f x = f y → x = y) (ho : ∀ y ∈ out, y < n) (hx : x < n) : st1 (out.map f) (f x) = (st1 out x).map f := by
 have e : f x ∈ out.map f ↔ x ∈ out := by
  constructor
  ·intro h
   obtain ⟨y, hy, e⟩ := List.mem_map.mp h
   exact inj y x (ho y hy) hx e ▸ hy
  ·exact List.mem_map_of_mem
 unfold st1
 by_cases h : x ∈ out
 ·rw [if_pos h, if_pos (e.mpr h)]
 ·rw [if_neg h, if_neg (fun k => h (e.mp k)), List.map_append]
  rfl
theorem st1_small {out : List Nat} {n x : Nat} (ho : ∀ y ∈ out, y < n) (hx : x < n) : ∀ y ∈ st1 out x, y < n := by
 intro y hy
 rcases st1_mem.mp hy with hy | rfl
 ·exact ho y hy
 ·exact hx
theorem bfs_map {s t : List Nat × List Nat} {f : Nat → Nat} (hs : Sf s.1 s.2) (a : Is s t f) : ∀ (F i : Nat) (out : List Nat), (∀ y ∈ out, y < s.1.length) → bfs t.1 t.2 F i (out.map f) = (bfs s.1 s.2 F i out).map f := by
 intro F
 induction F with
 | zero => intro i out _; rfl
 | succ F ih =>
  intro i out ho
  unfold bfs
  rw [List.length_map]
  by_cases h : i < out.length
  ·rw [if_pos h, if_pos h]
   have hz := ho _ (g_mem h)
   rw [g_map h, ← a.r _ hz, ← a.u _ hz, st1_map a.inj ho (hs.gr hz), st1_map a.inj (st1_small ho (hs.gr hz)) (hs.gu hz)]
   exact ih _ _ (st1_small (st1_small ho (hs.gr hz)) (hs.gu hz))
  ·rw [if_neg h, if_neg h]
theorem reach_map {s t : List Nat × List Nat} {f : Nat → Nat} (hs : Sf s.1 s.2) (a : Is s t f) {i : Nat} (hi : i < s.1.length) : reach t.1 t.2 (f i) = (reach s.1 s.2 i).map f := by
 unfold reach
 rw [a.len]
 exact bfs_map hs a _ _ [i] (by simpa using hi)
theorem ix_map {l : List Nat} {f : Nat → Nat} {n x : Nat} (inj : ∀ x y, x < n → y < n → f x = f y → x = y) (hl : ∀ y ∈ l, y < n) (hx : x < n) : ix (l.map f) (f x) = ix l x := by
 unfold ix
 induction l with
 | nil => rfl
 | cons a l ih =>
  have ha := hl a (by simp)
  rw [List.map_cons, List.idxOf_cons, List.idxOf_cons, ih (fun y hy => hl y (by simp [hy]))]
  by_cases e : a = x
  ·subst e; simp
  ·have e' : ¬ f a = f x := fun k => e (inj a x ha hx k)
   rw [(beq_eq_false_iff_ne).mpr e, (beq_eq_false_iff_ne).mpr e']
theorem Sf.of_is {s t : List Nat × List Nat} {f : Nat → Nat} (hs : Sf s.1 s.2) (a : Is s t f) (p1 : IsP t.1) (p2 : IsP t.2) (hl : t.2.length = t.1.length) : Sf t.1 t.2 := by
 refine sf_of_tr p1 p2 (by rw [a.len]; exact hs.le) hl (by rw [a.len]; exact hs.pos) (fun S s0 k1 k2 y hy => ?_)
 rw [a.len] at k1 k2 hy
 have i0 := bk_lt a.lt a.inj hs.pos
 have h0 : S (f (bk s.1.length f 0)) := by rw [f_bk a.lt a.inj hs.pos]; exact s0
 have hm := (reach_full hs i0).2 (bk s.1.length f y) (bk_lt a.lt a.inj hy)
 have := (bfs_ind (fun x => S (f x)) (n := s.1.length) (fun x hx h => ⟨by rw [a.r x hx]; exact k1 _ (a.lt x hx) h, hs.gr hx⟩) (fun x hx h => ⟨by rw [a.u x hx]; exact k2 _ (a.lt x hx) h, hs.gu hx⟩) _ _ [bk s.1.length f 0] (by intro x hx; obtain rfl : x = bk s.1.length f 0 := (by simpa using hx); exact ⟨h0, i0⟩) _ hm).1
 rw [f_bk a.lt a.inj hy] at this
 exact this
theorem Sf.all_of {r u : List Nat} (hs : Sf r u) {S : Nat → Prop} {i : Nat} (hi : i < r.length) (h0 : S i) (h1 : ∀ x, x < r.length → S x → S (g r x)) (h2 : ∀ x, x < r.length → S x → S (g u x)) : ∀ y, y < r.length → S y := by
 intro y hy
 have hm := (reach_full hs hi).2 y hy
 exact (bfs_ind S (n := r.length) (fun x hx h => ⟨h1 x hx h, hs.gr hx⟩) (fun x hx h => ⟨h2 x hx h, hs.gu hx⟩) _ _ [i] (by intro x hx; obtain rfl : x = i := (by simpa using hx); exact ⟨h0, hi⟩) _ hm).1
theorem Is.ir {s t : List Nat × List Nat} {f : Nat → Nat} (hs : Sf s.1 s.2) (ht : Sf t.1 t.2) (a : Is s t f) {x : Nat} (hx : x < s.1.length) : f (ix s.1 x) = ix t.1 (f x) := by
 have h1 := hs.ir hx
 refine (ix_eq ht.pr (by rw [a.len]; exact a.lt _ h1) ?_).symm
 rw [← a.r _ h1, g_ix hs.pr hx]
theorem Is.iu {s t : List Nat × List Nat} {f : Nat → Nat} (hs : Sf s.1 s.2) (ht : Sf t.1 t.2) (a : Is s t f) {x : Nat} (hx : x < s.1.length) : f (ix s.2 x) = ix t.2 (f x) := by
 have h1 := hs.iu hx
 refine (ix_eq ht.pu (by rw [ht.eq, a.len]; exact a.lt _ h1) ?_).symm
 rw [← a.u _ h1, g_ix hs.pu (by rw [hs.eq]; exact hx)]
end Go.Proofs.Ytcggfjpnfodbaaa.M
end
section
/- The canonical form tells which surfaces are alike. No conditions. -/
namespace Go.Proofs.Ytcggfjpnfodbaaa.M
set_option linter.unusedVariables false
set_option linter.unusedSimpArgs false
theorem rS_is {s t : List Nat × List Nat} {f : Nat → Nat} (hs : Sf s.1 s.2) (ht : Sf t.1 t.2) (a : Is s t f) {i : Nat} (hi : i < s.1.length) : rS t.1 t.2 (f i) = rS s.1 s.2 i := by
 have hfi : f i < t.1.length := by rw [a.len]; exact a.lt i hi
 obtain ⟨p1, l1⟩ := isP_reach hs hi
 obtain ⟨p2, l2⟩ := isP_reach ht hfi
 have em := reach_map hs a hi
 have hle : ∀ y ∈ reach s.1 s.2 i, y < s.1.length := fun y hy => by rw [← l1]; exact p1.lt y hy
 have key : ∀ (p q : List Nat), (∀ x, x < s.1.length → g p x < s.1.length) → (∀ x, x < s.1.length → f (g p x) = g q (f x)) → p.length = s.1.length → q.length = t.1.length → ren q (nm t.1 t.2 (f i)) = ren p (nm s.1 s.2 i) := by
  intro p q hp hq lp lq
  refine ext_g (by rw [ren_len, ren_len, lp, lq, a.len]) (fun j hj => ?_)
  rw [ren_len, lq] at hj
  have hj' : j < s.1.length := by rw [← a.len]; exact hj
  rw [g_ren (by rw [lq]; exact hj), g_ren (by rw [lp]; exact hj')]
  unfold nm
  rw [ix_inv p2 (by rw [l2]; exact hj), ix_inv p1 (by rw [l1]; exact hj'), em, g_map (by rw [l1]; exact hj')]
  have hz : g (reach s.1 s.2 i) j < s.1.length := hle _ (g_mem (by rw [l1]; exact hj'))
  rw [← hq _ hz, ← em, g_inv (by rw [l2, a.len]; exact a.lt _ (hp _ hz)), g_inv (by rw [l1]; exact hp _ hz), em]
  exact ix_map a.inj hle (hp _ hz)
 exact Prod.ext (key s.1 t.1 (fun x hx => hs.gr hx) a.r rfl rfl) (key s.2 t.2 (fun x hx => hs.gu hx) a.u hs.eq ht.eq)
theorem is_rS {s : List Nat × List Nat} (hs : Sf s.1 s.2) {i : Nat} (hi : i < s.1.length) : Is s (rS s.1 s.2 i) (g (nm s.1 s.2 i)) := by
 obtain ⟨p, l⟩ := isP_nm hs hi
 refine ⟨(rS_len i).1, fun x hx => ?_, fun x y hx hy e => g_inj p (by rw [l]; exact hx) (by rw [l]; exact hy) e, fun x hx => ?_, fun x hx => ?_⟩
 ·have := g_lt p (i := x) (by rw [l]; exact hx)
  rw [l] at this
  exact this
 ·have h1 := g_lt p (i := x) (by rw [l]; exact hx)
  rw [l] at h1
  show _ = g (ren s.1 (nm s.1 s.2 i)) _
  rw [g_ren h1, ix_g p (by rw [l]; exact hx)]
 ·have h1 := g_lt p (i := x) (by rw [l]; exact hx)
  rw [l] at h1
  show _ = g (ren s.2 (nm s.1 s.2 i)) _
  rw [g_ren (by rw [hs.eq]; exact h1), ix_g p (by rw [l]; exact hx)]
theorem sf_rS {s : List Nat × List Nat} (hs : Sf s.1 s.2) {i : Nat} (hi : i < s.1.length) : Sf (rS s.1 s.2 i).1 (rS s.1 s.2 i).2 := by
 obtain ⟨p, l⟩ := isP_nm hs hi
 have h := rS_len (r := s.1) (u := s.2) i
 exact hs.of_is (is_rS hs hi) (isP_ren hs.pr p l.symm) (isP_ren hs.pu p (by rw [l, hs.eq])) (by rw [h.1, h.2, hs.eq])
theorem canK_at (r u : List Nat) : ∀ k, ∃ i, i ≤ k ∧ canK r u k = rS r u i := by
 intro k
 induction k with
 | zero => exact ⟨0, Nat.le_refl _, rfl⟩
 | succ k ih =>
  obtain ⟨i, hi, e⟩ := ih
  unfold canK
  split
  ·exact ⟨k + 1, Nat.le_refl _, rfl⟩
  ·exact ⟨i, by omega, e⟩
theorem canK_le (r u : List Nat) : ∀ k i, i ≤ k → ¬ cmpS (rS r u i) (canK r u k) < 0 := by
 intro k
 induction k with
 | zero =>
  intro i hi
  obtain rfl : i = 0 := by omega
  show ¬ cmpS (rS r u 0) (rS r u 0) < 0
  rw [(cmpS_eq _ _).2 rfl]; omega
 | succ k ih =>
  intro i hi
  unfold canK
  by_cases h : cmpS (rS r u (k + 1)) (canK r u k) < 0
  ·rw [if_pos h]
   by_cases e : i = k + 1
   ·subst e
    rw [(cmpS_eq _ _).2 rfl]; omega
   ·intro h2
    exact ih i (by omega) (cmpS_tr _ _ _ h2 h)
  ·rw [if_neg h]
   by_cases e : i = k + 1
   ·subst e; exact h
   ·exact ih i (by omega)
theorem canS_at {r u : List Nat} (hs : Sf r u) : ∃ i, i < r.length ∧ canS r u = rS r u i := by
 obtain ⟨i, hi, e⟩ := canK_at r u (r.length - 1)
 have := hs.pos
 exact ⟨i, by omega, e⟩
theorem canS_le {r u : List Nat} {i : Nat} (hi : i < r.length) : ¬ cmpS (rS r u i) (canS r u) < 0 := canK_le r u _ i (by omega)
theorem sf_canS {s : List Nat × List Nat} (hs : Sf s.1 s.2) : Sf (canS s.1 s.2).1 (canS s.1 s.2).2 := by
 obtain ⟨i, hi, e⟩ := canS_at hs
 rw [e]
 exact sf_rS hs hi
theorem is_canS {s : List Nat × List Nat} (hs : Sf s.1 s.2) : ∃ f, Is s (canS s.1 s.2) f := by
 obtain ⟨i, hi, e⟩ := canS_at hs
 rw [e]
 exact ⟨_, is_rS hs hi⟩
theorem canS_of_is {s t : List Nat × List Nat} {f : Nat → Nat} (hs : Sf s.1 s.2) (ht : Sf t.1 t.2) (a : Is s t f) : canS s.1 s.2 = canS t.1 t.2 := by
 obtain ⟨i, hi, e1⟩ := canS_at hs
 obtain ⟨j, hj, e2⟩ := canS_at ht
 have a' := a.symm hs
 rw [a.len] at hj
 have hb := bk_lt a.lt a.inj hj
 have q1 := canS_le (r := t.1) (u := t.2) (i := f i) (by rw [a.len]; exact a.lt i hi)
 have q2 := canS_le (r := s.1) (u := s.2) (i := bk s.1.length f j) hb
 rw [rS_is hs ht a hi, ← e1] at q1
 rw [rS_is ht hs a' (by rw [a.len]; exact hj), ← e2] at q2
 have := cmpS_neg (canS s.1 s.2) (canS t.1 t.2)
 exact (cmpS_eq _ _).1 (by omega)
theorem canS_iff {s t : List Nat × List Nat} (hs : Sf s.1 s.2) (ht : Sf t.1 t.2) : canS s.1 s.2 = canS t.1 t.2 ↔ ∃ f, Is s t f := by
 constructor
 ·intro h
  obtain ⟨f1, h1⟩ := is_canS hs
  obtain ⟨f2, h2⟩ := is_canS ht
  rw [h] at h1
  exact ⟨_, h1.trans (h2.symm ht)⟩
 ·rintro ⟨f, h⟩
  exact canS_of_is hs ht h
end Go.Proofs.Ytcggfjpnfodbaaa.M
end
section
/- What the four letters keep: symmetries and half turns. No conditions. -/
namespace Go.Proofs.Ytcggfjpnfodbaaa.M
set_option linter.unusedVariables false
set_option linter.unusedSimpArgs false
theorem lt_four (c : Int) : (∀ s, lt c s = lt 84 s) ∨ (∀ s, lt c s = lt 116 s) ∨ (∀ s, lt c s = lt 83 s) ∨ (∀ s, lt c s = lt 115 s) := by
 by_cases h1 : c = 84
 ·subst h1; exact .inl fun _ => rfl
 ·by_cases h2 : c = 116
  ·subst h2; exact .inr (.inl fun _ => rfl)
  ·by_cases h3 : c = 83
   ·subst h3; exact .inr (.inr (.inl fun _ => rfl))
   ·exact .inr (.inr (.inr fun s => by unfold lt; simp [h1, h2, h3]))
theorem gT {s : List Nat × List Nat} (hs : Sf s.1 s.2) {x : Nat} (hx : x < s.1.length) : g (thn (inv s.1) s.2) x = g s.2 (ix s.1 x) := by rw [g_thn (by rw [inv_len]; exact hx), g_inv hx]
theorem gt {s : List Nat × List Nat} (hs : Sf s.1 s.2) {x : Nat} (hx : x < s.1.length) : g (thn s.1 s.2) x = g s.2 (g s.1 x) := g_thn hx
theorem giu {s : List Nat × List Nat} (hs : Sf s.1 s.2) {x : Nat} (hx : x < s.1.length) : g (inv s.2) x = ix s.2 x := g_inv (by rw [hs.eq]; exact hx)
theorem gir {s : List Nat × List Nat} (hs : Sf s.1 s.2) {x : Nat} (hx : x < s.1.length) : g (inv s.1) x = ix s.1 x := g_inv hx
theorem is_lt {s t : List Nat × List Nat} {f : Nat → Nat} (hs : Sf s.1 s.2) (ht : Sf t.1 t.2) (a : Is s t f) (c : Int) : Is (lt c s) (lt c t) f := by
 have ls := (sf_lt hs c).2
 have lt' := (sf_lt ht c).2
 have up : ∀ {x}, x < s.1.length → f x < t.1.length := fun {x} hx => by rw [a.len]; exact a.lt x hx
 refine ⟨by rw [ls, lt', a.len], fun x hx => ?_, fun x y hx hy => ?_, fun x hx => ?_, fun x hx => ?_⟩
 ·rw [ls] at hx ⊢; exact a.lt x hx
 ·rw [ls] at hx hy; exact a.inj x y hx hy
 ·rw [ls] at hx
  rcases lt_four c with h | h | h | h <;> rw [h s, h t]
  ·exact a.r x hx
  ·exact a.r x hx
  ·show f (g (inv s.2) x) = g (inv t.2) (f x)
   rw [giu hs hx, giu ht (up hx)]
   exact a.iu hs ht hx
  ·exact a.u x hx
 ·rw [ls] at hx
  rcases lt_four c with h | h | h | h <;> rw [h s, h t]
  ·show f (g (thn (inv s.1) s.2) x) = g (thn (inv t.1) t.2) (f x)
   rw [gT hs hx, gT ht (up hx), a.u _ (hs.ir hx), a.ir hs ht hx]
  ·show f (g (thn s.1 s.2) x) = g (thn t.1 t.2) (f x)
   rw [gt hs hx, gt ht (up hx), a.u _ (hs.gr hx), a.r x hx]
  ·exact a.r x hx
  ·show f (g (inv s.1) x) = g (inv t.1) (f x)
   rw [gir hs hx, gir ht (up hx)]
   exact a.ir hs ht hx
open Classical in
noncomputable def ledN (s t : List Nat × List Nat) (b : Nat) : Nat := ((List.range s.1.length).filter (fun i => decide (∃ f, Is s t f ∧ f b = i))).length
def symN (s : List Nat × List Nat) : Nat := ((List.range s.1.length).filter (fun i => decide (rS s.1 s.2 i = canS s.1 s.2))).length
def neg (s : List Nat × List Nat) : List Nat × List Nat := (inv s.1, inv s.2)
end Go.Proofs.Ytcggfjpnfodbaaa.M
end
section
/- Plain mathematics: classes of what is linked. No conditions. -/
namespace Go.Proofs.Ytcggfjpnfodbaaa.M
set_option linter.unusedVariables false
set_option linter.unusedSimpArgs false
inductive Cn (up : Nat → Option Nat) : Nat → Nat → Prop
 | refl (i : Nat) : Cn up i i
 | up {i j k : Nat} : up i = some j → Cn up j k → Cn up i k
 | dn {i j k : Nat} : up j = some i → Cn up j k → Cn up i k
theorem Cn.trans {up : Nat → Option Nat} {i j k : Nat} (h : Cn up i j) (h' : Cn up j k) : Cn up i k := by
 induction h with
 | refl i => exact h'
 | up e _ ih => exact .up e (ih h')
 | dn e _ ih => exact .dn e (ih h')
theorem Cn.symm {up : Nat → Option Nat} {i j : Nat} (h : Cn up i j) : Cn up j i := by
 induction h with
 | refl i => exact .refl i
 | up e _ ih => exact ih.trans (.dn e (.refl _))
 | dn e _ ih => exact ih.trans (.up e (.refl _))
theorem Cn.one {up : Nat → Option Nat} {i j : Nat} (h : up i = some j) : Cn up i j := .up h (.refl _)
theorem Cn.lt {n : Nat} {up : Nat → Option Nat} (hup : ∀ i j, up i = some j → i < n ∧ j < n) {i j : Nat} (h : Cn up i j) (hi : i < n) : j < n := by
 induction h with
 | refl i => exact hi
 | up e _ ih => exact ih (hup _ _ e).2
 | dn e _ ih => exact ih (hup _ _ e).1
theorem Cn.closed {up : Nat → Option Nat} {S : Nat → Prop} (hS : ∀ i j, up i = some j → (S i ↔ S j)) {i j : Nat} (h : Cn up i j) : S i ↔ S j := by
 induction h with
 | refl i => exact Iff.rfl
 | up e _ ih => exact (hS _ _ e).trans ih
 | dn e _ ih => exact (hS _ _ e).symm.trans ih
structure Grp (n : Nat) (up : Nat → Option Nat) (t : Nat) (G : Nat → Nat) : Prop where
 le : ∀ j, j < n → G j ≤ j
 fix : ∀ j, j < n → G (G j) = G j
 cn : ∀ j, j < n → Cn up j (G j)
 ed : ∀ i j, i < t → up i = some j → G i = G j
def mgf (G : Nat → Nat) (a b : Nat) : Nat → Nat := fun j => if G j = a ∨ G j = b then min a b else G j
theorem Grp.start (n : Nat) (up : Nat → Option Nat) : Grp n up 0 (fun j => j) := ⟨fun j _ => Nat.le_refl _, fun j _ => rfl, fun j _ => .refl _, fun i j h _ => by omega⟩
theorem Grp.skip {n t : Nat} {up : Nat → Option Nat} {G : Nat → Nat} (h : Grp n up t G) (e : up t = none) : Grp n up (t + 1) G :=
 ⟨h.le, h.fix, h.cn, fun i j hi hj => by
  by_cases e2 : i = t
  ·subst e2
   rw [e] at hj
   cases hj
  ·exact h.ed i j (by omega) hj⟩
theorem Grp.merge {n t k : Nat} {up : Nat → Option Nat} (hup : ∀ i j, up i = some j → i < n ∧ j < n) {G : Nat → Nat} (h : Grp n up t G) (e : up t = some k) : Grp n up (t + 1) (mgf G (G t) (G k)) := by
 obtain ⟨ht, hk⟩ := hup t k e
 have ha := h.fix t ht
 have hb := h.fix k hk
 have la := h.le t ht
 have lb := h.le k hk
 have hab : Cn up (G t) (G k) := (h.cn t ht).symm.trans ((Cn.one e).trans (h.cn k hk))
 have hm : min (G t) (G k) = G t ∨ min (G t) (G k) = G k := by omega
 refine ⟨fun j hj => ?_, fun j hj => ?_, fun j hj => ?_, fun i j hi hj => ?_⟩
 ·unfold mgf
  have := h.le j hj
  split <;> omega
 ·have key : ∀ c, (c = G t ∨ c = G k) → mgf G (G t) (G k) c = min (G t) (G k) := by
   intro c hc
   unfold mgf
   rw [if_pos (by rcases hc with rfl | rfl; exact .inl ha; exact .inr hb)]
  by_cases hc : G j = G t ∨ G j = G k
  ·have e1 : mgf G (G t) (G k) j = min (G t) (G k) := by unfold mgf; rw [if_pos hc]
   rw [e1]
   exact key _ hm
  ·have e1 : mgf G (G t) (G k) j = G j := by unfold mgf; rw [if_neg hc]
   rw [e1]
   unfold mgf
   rw [h.fix j hj, if_neg hc]
 ·unfold mgf
  split
  ·rename_i hc
   refine (h.cn j hj).trans ?_
   rcases hc with hc | hc <;> rcases hm with hm | hm <;> rw [hc, hm]
   ·exact .refl _
   ·exact hab
   ·exact hab.symm
   ·exact .refl _
  ·exact h.cn j hj
 ·by_cases e2 : i = t
  ·subst e2
   rw [e] at hj
   injection hj with hj
   subst hj
   unfold mgf
   simp
  ·unfold mgf
   rw [h.ed i j (by omega) hj]
theorem Grp.iff {n : Nat} {up : Nat → Option Nat} (hup : ∀ i j, up i = some j → i < n ∧ j < n) {G : Nat → Nat} (h : Grp n up n G) {i j : Nat} (hi : i < n) (hj : j < n) : G i = G j ↔ Cn up i j := by
 constructor
 ·intro e
  have := (h.cn i hi).trans ((by rw [e]; exact .refl _ : Cn up (G i) (G j)).trans (h.cn j hj).symm)
  exact this
 ·intro hc
  induction hc with
  | refl i => rfl
  | up e _ ih => rw [h.ed _ _ (hup _ _ e).1 e]; exact ih (hup _ _ e).2 hj
  | dn e _ ih => rw [← h.ed _ _ (hup _ _ e).1 e]; exact ih (hup _ _ e).1 hj
theorem Grp.head {n : Nat} {up : Nat → Option Nat} (hup : ∀ i j, up i = some j → i < n ∧ j < n) {G : Nat → Nat} (h : Grp n up n G) {i : Nat} (hi : i < n) : G i = i ↔ ∀ j, Cn up i j → i ≤ j := by
 constructor
 ·intro e j hc
  have hj := hc.lt hup hi
  have := (h.iff hup hi hj).mpr hc
  have := h.le j hj
  omega
 ·intro hc
  have := hc _ (h.cn i hi)
  have := h.le i hi
  omega
def ups (up : Nat → Option Nat) : Nat → Nat → Option Nat
 | 0, i => some i
 | m + 1, i => (up i).bind (ups up m)
theorem ups_succ (up : Nat → Option Nat) (m i : Nat) : ups up (m + 1) i = (ups up m i).bind up := by
 induction m generalizing i with
 | zero =>
  simp only [ups, Option.bind_some]
  cases h : up i <;> rfl
 | succ m ih =>
  show (up i).bind (ups up (m + 1)) = ((up i).bind (ups up m)).bind up
  cases h : up i with
  | none => rfl
  | some j => exact ih j
theorem ups_cn {up : Nat → Option Nat} {m i j : Nat} (h : ups up m i = some j) : Cn up i j := by
 induction m generalizing i with
 | zero => simp [ups] at h; subst h; exact .refl _
 | succ m ih =>
  obtain ⟨z, hz, h2⟩ := Option.bind_eq_some_iff.mp h
  exact .up hz (ih h2)
theorem nodup_sub_len : ∀ (a b : List Nat), a.Nodup → (∀ x ∈ a, x ∈ b) → a.length ≤ b.length := by
 intro a
 induction a with
 | nil => intro b _ _; simp
 | cons x a ih =>
  intro b hn hs
  have hx := List.nodup_cons.mp hn
  have h1 := ih (b.erase x) hx.2 (fun y hy => by
   have hyx : y ≠ x := fun e => hx.1 (e ▸ hy)
   exact (List.mem_erase_of_ne hyx).mpr (hs y (by simp [hy])))
  have h2 := List.length_erase_of_mem (hs x (by simp))
  have h3 : 0 < b.length := List.length_pos_of_mem (hs x (by simp))
  simp only [List.length_cons]
  omega
structure Mk (n : Nat) (up : Nat → Option Nat) (row : Nat) (S0 add : List Nat) : Prop where
 nd : add.Nodup
 lt : ∀ x ∈ add, x < n
 new : ∀ x ∈ add, x ∉ S0
 p : ∀ x ∈ add, (∃ m, ups up m row = some x) ∨ (∃ m, ups up m x = some row)
theorem Mk.cn {n : Nat} {up : Nat → Option Nat} {row : Nat} {S0 add : List Nat} (h : Mk n up row S0 add) {x : Nat} (hx : x ∈ add) : Cn up row x := by
 rcases h.p x hx with ⟨m, hm⟩ | ⟨m, hm⟩
 ·exact ups_cn hm
 ·exact (ups_cn hm).symm
theorem Mk.add {n : Nat} {up : Nat → Option Nat} {row : Nat} {S0 add : List Nat} (h : Mk n up row S0 add) {x : Nat} (hx : x < n) (h1 : x ∉ S0) (h2 : x ∉ add) (hp : (∃ m, ups up m row = some x) ∨ (∃ m, ups up m x = some row)) : Mk n up row S0 (add ++ [x]) := by
 refine ⟨List.nodup_append.mpr ⟨h.nd, by simp, fun a ha b hb e => ?_⟩, fun y hy => ?_, fun y hy => ?_, fun y hy => ?_⟩
 ·have : b = x := by simpa using hb
  exact h2 (by rw [← this, ← e]; exact ha)
 ·rcases List.mem_append.mp hy with hy | hy
  ·exact h.lt y hy
  ·have : y = x := by simpa using hy
   omega
 ·rcases List.mem_append.mp hy with hy | hy
  ·exact h.new y hy
  ·have : y = x := by simpa using hy
   rw [this]
   exact h1
 ·rcases List.mem_append.mp hy with hy | hy
  ·exact h.p y hy
  ·have : y = x := by simpa using hy
   rw [this]
   exact hp
theorem Mk.full {n : Nat} {up : Nat → Option Nat} (hup : ∀ i j, up i = some j → i < n ∧ j < n) (hinj : ∀ i i' j, up i = some j → up i' = some j → i = i') {row : Nat} {S0 add : List Nat} (h : Mk n up row S0 add) (hrow : row ∈ add)
  (hS0 : ∀ i j, up i = some j → (i ∈ S0 ↔ j ∈ S0)) (c1 : ∀ x ∈ add, ∀ y, up x = some y → y ∈ S0 ∨ y ∈ add)
  (c2 : ∀ k x, up k = some x → (x ∈ S0 ∨ x ∈ add) → (∃ m, ups up m k = some row) → (k ∈ S0 ∨ k ∈ add)) : ∀ x, x ∈ add ↔ Cn up row x := by
 have hrs : row ∉ S0 := h.new row hrow
 have chain : ∀ m x, ups up m row = some x → x ∈ add := by
  intro m
  induction m with
  | zero => intro x hx; simp [ups] at hx; rw [← hx]; exact hrow
  | succ m ih =>
   intro x hx
   rw [ups_succ] at hx
   obtain ⟨z, hz, hzx⟩ := Option.bind_eq_some_iff.mp hx
   have hza := ih z hz
   rcases c1 z hza x hzx with k | k
   ·exact absurd ((hS0 z x hzx).mpr k) (h.new z hza)
   ·exact k
 have closed : ∀ i j, up i = some j → ((i ∈ S0 ∨ i ∈ add) ↔ (j ∈ S0 ∨ j ∈ add)) := by
  intro i j e
  constructor
  ·rintro (k | k)
   ·exact .inl ((hS0 i j e).mp k)
   ·exact c1 i k j e
  ·rintro (k | k)
   ·exact .inl ((hS0 i j e).mpr k)
   ·rcases h.p j k with ⟨m, hm⟩ | ⟨m, hm⟩
    ·cases m with
     | zero =>
      simp [ups] at hm
      subst hm
      exact c2 i _ e (.inr k) ⟨1, by simp [ups, e]⟩
     | succ m =>
      rw [ups_succ] at hm
      obtain ⟨z, hz, hzj⟩ := Option.bind_eq_some_iff.mp hm
      have := hinj i z j e hzj
      subst this
      exact .inr (chain m _ hz)
    ·exact c2 i j e (.inr k) ⟨m + 1, by simp [ups, e, hm]⟩
 intro x
 constructor
 ·exact fun hx => h.cn hx
 ·intro hc
  have h1 := (Cn.closed (S := fun z => z ∈ S0 ∨ z ∈ add) closed hc).mp (.inr hrow)
  rcases h1 with h1 | h1
  ·exact absurd ((Cn.closed (S := fun z => z ∈ S0) hS0 hc).mpr h1) hrs
  ·exact h1
end Go.Proofs.Ytcggfjpnfodbaaa.M
end
section
/- Half turns: the tests of the program and of the reference come to one plain test. No conditions. -/
namespace Go.Proofs.Ytcggfjpnfodbaaa.M
set_option linter.unusedVariables false
set_option linter.unusedSimpArgs false
open Go.RowKit Go.Proofs.YtcggfjpnfodbaaaW.PrintWords Go.Proofs.YtcggfjpnfodbaaaW.PrintLast Go.Proofs.YtcggfjpnfodbaaaW.PrintMore Go.Proofs.Ytcggfjpnfodbaaa.A
def Turn (r u a : List Nat) : Prop := ∀ i, i < a.length → g a (g r i) = ix r (g a i) ∧ g a (g u i) = ix u (g a i)
instance (r u a : List Nat) : Decidable (Turn r u a) := by unfold Turn; infer_instance
end Go.Proofs.Ytcggfjpnfodbaaa.M
end
section
/- Half turns as the program makes them. No conditions. -/
namespace Go.Proofs.Ytcggfjpnfodbaaa.M
set_option linter.unusedVariables false
set_option linter.unusedSimpArgs false
open Go.RowKit Go.Proofs.YtcggfjpnfodbaaaW.PrintWords Go.Proofs.YtcggfjpnfodbaaaW.PrintLast Go.Proofs.YtcggfjpnfodbaaaW.PrintMore Go.Proofs.Ytcggfjpnfodbaaa.A
structure TurnP (r u b : List Nat) : Prop where
 len : b.length = r.length
 p : IsP b
 t : Turn r u b
theorem ix_inj {p : List Nat} (hp : IsP p) {x y : Nat} (hx : x < p.length) (hy : y < p.length) (h : ix p x = ix p y) : x = y := by
 rw [← g_ix hp hx, ← g_ix hp hy, h]
structure FI (r u : List Nat) (im : Nat) (out : List Nat) (f : Nat → Nat) : Prop where
 lt : ∀ x ∈ out, f x < r.length
 z : f 0 = im
 z0 : 0 ∈ out
 t : ∀ b, TurnP r u b → g b 0 = im → ∀ x ∈ out, f x = g b x
theorem FI.add {r u : List Nat} {im : Nat} {out : List Nat} {f : Nat → Nat} (h : FI r u im out f) {y v : Nat} (hy : y ∉ out) (hv : v < r.length) (ht : ∀ b, TurnP r u b → g b 0 = im → v = g b y) : FI r u im (out ++ [y]) (fun z => if z = y then v else f z) := by
 have h0 : (0 : Nat) ≠ y := fun e => hy (e ▸ h.z0)
 refine ⟨fun x hx => ?_, by simp [h0, h.z], by simp [h.z0], fun b hb hb0 x hx => ?_⟩
 ·by_cases e : x = y
  ·simp [e, hv]
  ·rcases List.mem_append.mp hx with hx | hx
   ·simp [e, h.lt x hx]
   ·exact absurd (by simpa using hx) e
 ·by_cases e : x = y
  ·subst e
   simp [ht b hb hb0]
  ·rcases List.mem_append.mp hx with hx | hx
   ·simp [e, h.t b hb hb0 x hx]
   ·exact absurd (by simpa using hx) e
end Go.Proofs.Ytcggfjpnfodbaaa.M
end
section
/- Half turns: the program and the reference find the same ones. No conditions. -/
namespace Go.Proofs.Ytcggfjpnfodbaaa.M
set_option linter.unusedVariables false
set_option linter.unusedSimpArgs false
open Go.RowKit Go.Proofs.YtcggfjpnfodbaaaW.PrintWords Go.Proofs.YtcggfjpnfodbaaaW.PrintLast Go.Proofs.YtcggfjpnfodbaaaW.PrintMore Go.Proofs.Ytcggfjpnfodbaaa.A
def Led (r u out : List Nat) (a : Nat) : Prop := ∀ i, i < out.length → 0 < i → ∃ j, j < i ∧ j < a ∧ (g out i = g r (g out j) ∨ g out i = g u (g out j))
theorem g_app {out : List Nat} {x i : Nat} (h : i < out.length) : g (out ++ [x]) i = g out i := by
 unfold g
 rw [List.getD_eq_getElem?_getD, List.getD_eq_getElem?_getD, List.getElem?_append_left h]
theorem g_last (out : List Nat) (x : Nat) : g (out ++ [x]) out.length = x := getD_mid out x [] 0
theorem Led.st {r u out : List Nat} {a y : Nat} (h : Led r u out (a + 1)) (ha : a < out.length) (hy : y = g r (g out a) ∨ y = g u (g out a)) : Led r u (st1 out y) (a + 1) := by
 unfold st1
 split
 ·exact h
 ·intro i hi h0
  by_cases e : i < out.length
  ·obtain ⟨j, j1, j2, j3⟩ := h i e h0
   refine ⟨j, j1, j2, ?_⟩
   rw [g_app e, g_app (by omega)]
   exact j3
  ·have e2 : i = out.length := by simp at hi; omega
   subst e2
   refine ⟨a, ha, by omega, ?_⟩
   rw [g_last, g_app ha]
   exact hy
inductive Given (r u L : List Nat) (i : Nat) : Nat → Prop
 | z : Given r u L i 0
 | r (j : Nat) : j < i → Given r u L i (g r (g L j))
 | u (j : Nat) : j < i → Given r u L i (g u (g L j))
theorem Given.mono {r u L : List Nat} {i x : Nat} (h : Given r u L i x) : Given r u L (i + 1) x := by
 cases h with
 | z => exact .z
 | r j hj => exact .r j (by omega)
 | u j hj => exact .u j (by omega)
structure GI (r u : List Nat) (im : Nat) (i : Nat) (c : List Nat) : Prop where
 len : c.length = r.length
 lt : ∀ x, x < r.length → g c x < r.length
 t : ∀ b, TurnP r u b → g b 0 = im → ∀ x, Given r u (reach r u 0) i x → g c x = g b x
 n : ∀ b, TurnP r u b → g b 0 ≠ im → ∀ x, Given r u (reach r u 0) i x → g c x ≠ g b x
theorem GI.put {r u : List Nat} (hs : Sf r u) {p : List Nat} (hp : p = r ∨ p = u) {im : Nat} {c : List Nat} (P : Nat → Prop) (h1 : c.length = r.length) (h2 : ∀ x, x < r.length → g c x < r.length) (ht : ∀ b, TurnP r u b → g b 0 = im → ∀ x, P x → g c x = g b x) (hn : ∀ b, TurnP r u b → g b 0 ≠ im → ∀ x, P x → g c x ≠ g b x) {x : Nat} (hx : x < r.length) (hP : P x) :
  (c.set (g p x) (ix p (g c x))).length = r.length ∧ (∀ z, z < r.length → g (c.set (g p x) (ix p (g c x))) z < r.length) ∧ (∀ b, TurnP r u b → g b 0 = im → ∀ z, (P z ∨ z = g p x) → g (c.set (g p x) (ix p (g c x))) z = g b z) ∧ (∀ b, TurnP r u b → g b 0 ≠ im → ∀ z, (P z ∨ z = g p x) → g (c.set (g p x) (ix p (g c x))) z ≠ g b z) := by
 have heq := hs.eq
 have ipp : IsP p := by rcases hp with rfl | rfl; exact hs.pr; exact hs.pu
 have hpl : p.length = r.length := by rcases hp with rfl | rfl; rfl; exact heq
 have gx := g_lt ipp (i := x) (by omega)
 have cx := h2 x hx
 have hv := ix_lt ipp (x := g c x) (by omega)
 have tp : ∀ b, TurnP r u b → g b (g p x) = ix p (g b x) := fun b hb => by
  have := hb.t x (by rw [hb.len]; exact hx)
  rcases hp with rfl | rfl
  ·exact this.1
  ·exact this.2
 refine ⟨by rw [List.length_set]; exact h1, fun z hz => ?_, fun b hb hb0 z hz => ?_, fun b hb hb0 z hz => ?_⟩
 ·rw [g_set (by omega)]
  split
  ·omega
  ·exact h2 z hz
 ·rw [g_set (by omega)]
  by_cases e : g p x = z
  ·rw [if_pos e, ← e, tp b hb, ht b hb hb0 x hP]
  ·rw [if_neg e]
   rcases hz with hz | hz
   ·exact ht b hb hb0 z hz
   ·exact absurd hz.symm e
 ·rw [g_set (by omega)]
  by_cases e : g p x = z
  ·rw [if_pos e, ← e, tp b hb]
   intro h
   exact hn b hb hb0 x hP (ix_inj ipp (by omega) (by have := g_lt hb.p (i := x) (by rw [hb.len]; exact hx); rw [hb.len] at this; omega) h)
  ·rw [if_neg e]
   rcases hz with hz | hz
   ·exact hn b hb hb0 z hz
   ·exact absurd hz.symm e
end Go.Proofs.Ytcggfjpnfodbaaa.M
end
section
/- Numbers drawn out of a code. No conditions. -/
namespace Go.Proofs.Ytcggfjpnfodbaaa.M
set_option linter.unusedVariables false
set_option linter.unusedSimpArgs false
open Go.RowKit Go.Proofs.YtcggfjpnfodbaaaW.PrintWords Go.Proofs.YtcggfjpnfodbaaaW.PrintLast Go.Proofs.YtcggfjpnfodbaaaW.PrintMore Go.Proofs.Ytcggfjpnfodbaaa.A
theorem and255 (n : Int) : Go.bits .and .i64 n 255 = n % 256 := by
 have h : (BitVec.ofInt 64 255).toNat = 2 ^ 8 - 1 := by decide
 have key : (BitVec.ofInt 64 n &&& BitVec.ofInt 64 255).toNat = (n % ((2 ^ 64 : Nat) : Int)).toNat % 2 ^ 8 := by
  rw [BitVec.toNat_and, BitVec.toNat_ofInt, h, Nat.and_two_pow_sub_one_eq_mod]
 show IntKind.i64.wrap ((BitVec.ofInt 64 n &&& BitVec.ofInt 64 255).toNat : Nat) = n % 256
 rw [key, IntKind.wrap_i64]
 omega
theorem byte_draw (b : List Int) (i h : Int) (hi : 0 ≤ i) (hl : i ≤ b.length) (hb : b.length ≤ 1000000000) : ∃ x i' h', Z46.f b i h = some (x, i', h') ∧ 0 ≤ x ∧ x ≤ 255 ∧ 0 ≤ i' ∧ i' ≤ b.length := by
 unfold Z46.f
 by_cases c : i < (b.length : Int)
 ·have e : wrap64 (i + 1) = i + 1 := w64 (by omega) (by omega)
  simp only [c, hi, if_true, and255, e]
  exact ⟨_, _, _, rfl, by omega, by omega, by omega, by omega⟩
 ·simp only [c, if_false, and255]
  exact ⟨_, _, _, rfl, by omega, by omega, by omega, by omega⟩
theorem below_draw (b : List Int) (i h a : Int) (hi : 0 ≤ i) (hl : i ≤ b.length) (hb : b.length ≤ 1000000000) (h0 : 0 < a) (h1 : a ≤ 256) : ∃ x i' h', Z39.f b i h a = some (x, i', h') ∧ 0 ≤ x ∧ x < a ∧ 0 ≤ i' ∧ i' ≤ b.length := by
 obtain ⟨x, i', h', e, x0, x1, j0, j1⟩ := byte_draw b i h hi hl hb
 unfold Z39.f
 have c1 : ¬ a ≤ 0 := by omega
 have c2 : ¬ a = 0 := by omega
 simp only [c1, h1, e, c2, if_true, if_false, Option.bind_some]
 refine ⟨_, _, _, rfl, ?_, ?_, j0, j1⟩
 ·rw [Int.tmod_eq_emod_of_nonneg x0]
  exact Int.emod_nonneg _ c2
 ·rw [Int.tmod_eq_emod_of_nonneg x0]
  exact Int.emod_lt_of_pos _ h0
theorem new_draw (b : List Int) (hb : b.length ≤ 1000000000) : ∃ h, Ev (fun k => Z51.f k b) (b, 0, h) := by
 unfold Z51.f
 have H : ∀ (d i : Nat) (x : Int), i + d = b.length → ∃ h, Ev (fun k => Z51.l0 k b x (i : Int)) (b, 0, h) := by
  intro d
  induction d with
  | zero =>
   intro i x hi
   refine ⟨x, ev_succ ?_⟩
   have c1 : ¬ ((i : Int) < (b.length : Int)) := by omega
   simp only [Z51.l0, c1, if_false]
   exact Ev.now _
  | succ d ih =>
   intro i x hi
   have c1 : (i : Int) < (b.length : Int) := by omega
   have c2 : (0 : Int) ≤ (i : Int) := by omega
   have c3 := w64s i (by omega)
   by_cases c4 : (i : Int) < 4000
   ·obtain ⟨h, e⟩ := ih (i + 1) (Go.bits .and .i64 (wrap64 ((wrap64 ((wrap64 (x * 109)) + (wrap64 (rd b (i : Int))))) + 7)) 1073741823) (by omega)
    refine ⟨h, ev_succ ?_⟩
    simp only [Z51.l0, c1, c2, c3, c4, if_true]
    exact e
   ·refine ⟨x, ev_succ ?_⟩
    simp only [Z51.l0, c1, c4, if_true, if_false]
    exact Ev.now _
 exact H b.length 0 _ (by omega)
end Go.Proofs.Ytcggfjpnfodbaaa.M
end
section
/- Drawn surfaces. No conditions. -/
namespace Go.Proofs.Ytcggfjpnfodbaaa.M
set_option linter.unusedVariables false
set_option linter.unusedSimpArgs false
open Go.RowKit Go.Proofs.YtcggfjpnfodbaaaW.PrintWords Go.Proofs.YtcggfjpnfodbaaaW.PrintLast Go.Proofs.YtcggfjpnfodbaaaW.PrintMore Go.Proofs.Ytcggfjpnfodbaaa.A
theorem perm_draw (b : List Int) (hb : b.length ≤ 1000000000) (n : Nat) (hn : n ≤ 100) (i h : Int) (hi : 0 ≤ i) (hl : i ≤ b.length) : ∃ l i' h', l.length = n ∧ 0 ≤ i' ∧ i' ≤ (b.length : Int) ∧ Ev (fun k => Z47.f k b i h (n : Int)) (l, i', h') := by
 unfold Z47.f
 have H : ∀ (d j : Nat) (l : List Int) (i h : Int), j + d = n → l.length = j → 0 ≤ i → i ≤ (b.length : Int) → ∃ l' i' h', l'.length = n ∧ 0 ≤ i' ∧ i' ≤ (b.length : Int) ∧ Ev (fun k => Z47.l0 k (n : Int) l (j : Int) b i h) (l', i', h') := by
  intro d
  induction d with
  | zero =>
   intro j l i h hj hl i0 i1
   obtain rfl : j = n := by omega
   refine ⟨l, i, h, hl, i0, i1, ev_succ ?_⟩
   have c1 : ¬ ((j : Int) < (j : Int)) := by omega
   simp only [Z47.l0, c1, if_false]
   exact Ev.now _
  | succ d ih =>
   intro j l i h hj hl i0 i1
   obtain ⟨x, i', h', e, x0, x1, j0, j1⟩ := below_draw b i h ((j + 1 : Nat) : Int) i0 i1 hb (by omega) (by omega)
   have hlen : (l ++ [(j : Int)]).length = j + 1 := by simp [hl]
   obtain ⟨l2, i2, h2, k0, k1, k2, k3⟩ := ih (j + 1) (((l ++ [(j : Int)]).set ((j : Int)).toNat (rd (l ++ [(j : Int)]) x)).set x.toNat (j : Int)) i' h' (by omega) (by rw [List.length_set, List.length_set, hlen]) j0 j1
   refine ⟨l2, i2, h2, k0, k1, k2, ev_succ ?_⟩
   have c1 : (j : Int) < (n : Int) := by omega
   have c2 : l.length < 17592186044416 := by omega
   have c4 : x < ((l ++ [(j : Int)]).length : Int) := by rw [hlen]; exact x1
   have c5 : (0 : Int) ≤ (j : Int) := by omega
   have c6 : (j : Int) < ((l ++ [(j : Int)]).length : Int) := by rw [hlen]; omega
   have c3 := w64s j (by omega)
   simp only [Z47.l0, c1, c2, c3, e, x0, c4, c5, c6, if_true, Option.bind_some]
   exact k3
 exact H n 0 [] i h (by omega) rfl hi hl
end Go.Proofs.Ytcggfjpnfodbaaa.M
end
section
/- What words keep: the program's answers. No conditions. -/
namespace Go.Proofs.Ytcggfjpnfodbaaa.M
set_option linter.unusedVariables false
set_option linter.unusedSimpArgs false
open Go.RowKit Go.Proofs.YtcggfjpnfodbaaaW.PrintWords Go.Proofs.YtcggfjpnfodbaaaW.PrintLast Go.Proofs.YtcggfjpnfodbaaaW.PrintMore Go.Proofs.Ytcggfjpnfodbaaa.A
def angL (s : List Nat × List Nat) : List Nat := sortD ((cycles (arnd s.1 s.2)).map List.length)
structure Alike (s t : List Nat × List Nat) : Prop where
 sf : Sf t.1 t.2
 len : t.1.length = s.1.length
 sym : symN t = symN s
 turn : ledN t (neg t) 0 = ledN s (neg s) 0
 ang : angL t = angL s
theorem impl_iso {s t : List Nat × List Nat} (hs : Sf s.1 s.2) (ht : Sf t.1 t.2) : Ev (fun k => Z8.f k (I s.1) (I s.2) (I t.1) (I t.2)) (decide (canS s.1 s.2 = canS t.1 t.2)) := by
 have h1 := canK_len (r := s.1) (u := s.2) (s.1.length - 1)
 have l1 := hs.le
 have l2 := hs.eq
 unfold Z8.f
 refine Ev.bind (impl_canon hs) (Ev.bind (impl_canon ht) ?_)
 simp only [if_true]
 exact Ev.bind (impl_same (canS s.1 s.2) (canS t.1 t.2) (by unfold canS; rw [h1.1]; omega) (by unfold canS; rw [h1.2]; omega)) (Ev.now _)
end Go.Proofs.Ytcggfjpnfodbaaa.M
end
section
/- The surfaces of a stratum: the program and the reference find the same ones. No conditions. -/
namespace Go.Proofs.Ytcggfjpnfodbaaa.M
set_option linter.unusedVariables false
set_option linter.unusedSimpArgs false
open Go.RowKit Go.Proofs.YtcggfjpnfodbaaaW.PrintWords Go.Proofs.YtcggfjpnfodbaaaW.PrintLast Go.Proofs.YtcggfjpnfodbaaaW.PrintMore Go.Proofs.Ytcggfjpnfodbaaa.A
def tabN : Nat → List (List Nat × List Nat)
 | 1 => [([0], [0])]
 | 2 => [([0, 1], [1, 0]), ([1, 0], [0, 1]), ([1, 0], [1, 0])]
 | 3 => [([0, 1, 2], [1, 2, 0]), ([0, 2, 1], [1, 0, 2]), ([0, 2, 1], [1, 2, 0]), ([1, 2, 0], [0, 1, 2]), ([1, 2, 0], [0, 2, 1]), ([1, 2, 0], [1, 2, 0]), ([1, 2, 0], [2, 0, 1])]
 | 4 => [([0, 1, 2, 3], [1, 2, 3, 0]), ([0, 1, 3, 2], [1, 2, 0, 3]), ([0, 1, 3, 2], [1, 2, 3, 0]), ([0, 2, 1, 3], [1, 0, 3, 2]), ([0, 2, 1, 3], [1, 3, 0, 2]), ([0, 2, 3, 1], [1, 0, 2, 3]), ([0, 2, 3, 1], [1, 0, 3, 2]), ([0, 2, 3, 1], [1, 2, 0, 3]), ([0, 2, 3, 1], [1, 2, 3, 0]), ([0, 2, 3, 1], [1, 3, 0, 2]), ([0, 2, 3, 1], [1, 3, 2, 0]), ([1, 0, 3, 2], [0, 2, 1, 3]), ([1, 0, 3, 2], [0, 2, 3, 1]), ([1, 0, 3, 2], [1, 2, 3, 0]), ([1, 0, 3, 2], [2, 3, 0, 1]), ([1, 0, 3, 2], [2, 3, 1, 0]), ([1, 2, 3, 0], [0, 1, 2, 3]), ([1, 2, 3, 0], [0, 1, 3, 2]), ([1, 2, 3, 0], [0, 2, 3, 1]), ([1, 2, 3, 0], [0, 3, 1, 2]), ([1, 2, 3, 0], [0, 3, 2, 1]), ([1, 2, 3, 0], [1, 0, 3, 2]), ([1, 2, 3, 0], [1, 2, 3, 0]), ([1, 2, 3, 0], [1, 3, 0, 2]), ([1, 2, 3, 0], [2, 3, 0, 1]), ([1, 3, 0, 2], [2, 0, 3, 1])]
 | _ => []
theorem surf_tab3 : surfN 1 = tabN 1 ∧ surfN 2 = tabN 2 ∧ surfN 3 = tabN 3 := by decide +kernel
theorem surf_tab4 : surfN 4 = tabN 4 := by decide +kernel
theorem surf_tab {n : Nat} (h1 : 1 ≤ n) (h4 : n ≤ 4) : surfN n = tabN n := by
 rcases four_cases h1 h4 with rfl | rfl | rfl | rfl
 ·exact surf_tab3.1
 ·exact surf_tab3.2.1
 ·exact surf_tab3.2.2
 ·exact surf_tab4
end Go.Proofs.Ytcggfjpnfodbaaa.M
end
section
/- The lists hold together. No conditions. -/
namespace Go.Proofs.Ytcggfjpnfodbaaa.M
set_option linter.unusedVariables false
set_option linter.unusedSimpArgs false
open Go.RowKit Go.Proofs.YtcggfjpnfodbaaaW.PrintWords Go.Proofs.YtcggfjpnfodbaaaW.PrintLast Go.Proofs.YtcggfjpnfodbaaaW.PrintMore Go.Proofs.Ytcggfjpnfodbaaa.A
theorem perm_mem {p : List Nat} (hp : IsP p) (h1 : 1 ≤ p.length) (h4 : p.length ≤ 4) : p ∈ permN p.length := by
 have key : ∀ a b c d : Fin 4, (IsP [a.val] → [a.val] ∈ permN 1) ∧ (IsP [a.val, b.val] → [a.val, b.val] ∈ permN 2) ∧ (IsP [a.val, b.val, c.val] → [a.val, b.val, c.val] ∈ permN 3) ∧ (IsP [a.val, b.val, c.val, d.val] → [a.val, b.val, c.val, d.val] ∈ permN 4) := by decide +kernel
 match p, hp, h1, h4 with
 | [a], hp, _, _ =>
  have ha := hp.lt a (by simp)
  simp at ha
  exact (key ⟨a, by omega⟩ 0 0 0).1 hp
 | [a, b], hp, _, _ =>
  have ha := hp.lt a (by simp)
  have hb := hp.lt b (by simp)
  simp at ha hb
  exact (key ⟨a, by omega⟩ ⟨b, by omega⟩ 0 0).2.1 hp
 | [a, b, c], hp, _, _ =>
  have ha := hp.lt a (by simp)
  have hb := hp.lt b (by simp)
  have hc := hp.lt c (by simp)
  simp at ha hb hc
  exact (key ⟨a, by omega⟩ ⟨b, by omega⟩ ⟨c, by omega⟩ 0).2.2.1 hp
 | [a, b, c, d], hp, _, _ =>
  have ha := hp.lt a (by simp)
  have hb := hp.lt b (by simp)
  have hc := hp.lt c (by simp)
  have hd := hp.lt d (by simp)
  simp at ha hb hc hd
  exact (key ⟨a, by omega⟩ ⟨b, by omega⟩ ⟨c, by omega⟩ ⟨d, by omega⟩).2.2.2 hp
theorem canS_mem {p q : List Nat} (h : Sf p q) (h4 : p.length ≤ 4) : canS p q ∈ tabN p.length := by
 have h1 : 1 ≤ p.length := h.pos
 have hq : q.length = p.length := h.eq
 rw [← surf_tab h1 h4]
 unfold surfN
 refine (mem_insAll _ _ _).2 (.inr (List.mem_flatMap.2 ⟨p, perm_mem h.pr h1 h4, List.mem_flatMap.2 ⟨q, ?_, ?_⟩⟩))
 ·have := perm_mem h.pu (by omega) (by omega)
  rwa [hq] at this
 ·rw [pr_yes (surfB_I.2 h)]
  simp
theorem can_tab : ∀ n : Fin 5, ∀ s ∈ tabN n.val, canS s.1 s.2 = s := by decide +kernel
end Go.Proofs.Ytcggfjpnfodbaaa.M
end
section
/- The least shears of surfaces with few squares. No conditions. -/
namespace Go.Proofs.Ytcggfjpnfodbaaa.M
set_option linter.unusedVariables false
set_option linter.unusedSimpArgs false
open Go.RowKit Go.Proofs.YtcggfjpnfodbaaaW.PrintWords Go.Proofs.YtcggfjpnfodbaaaW.PrintLast Go.Proofs.YtcggfjpnfodbaaaW.PrintMore Go.Proofs.Ytcggfjpnfodbaaa.A
abbrev PT : Type := List Nat × List Nat
def shI : Nat → PT → PT
 | 0, s => s
 | j + 1, s => lt 84 (shI j s)
def shC (s : PT) (j : Nat) : PT := canS (shI j s).1 (shI j s).2
def lsK (v : Int) (s : PT) : Bool := decide (1 ≤ v) && decide (v ≤ 120) && decide (shC s v.toNat = canS s.1 s.2)
def lsOk (s : PT) : Bool := match Z19.f 4000 (I s.1) (I s.2) with | some v => lsK v s | none => false
def lsTab (n : Nat) (p : List Nat) : Bool := (permN n).all (fun q => !(surfB (I p) (I q)) || lsOk (p, q))
theorem ls_tab3 : ∀ n : Fin 4, ∀ p ∈ permN n.val, lsTab n.val p = true := by decide +kernel
theorem ls_tab4a : ∀ p ∈ (permN 4).take 4, lsTab 4 p = true := by decide +kernel
theorem ls_tab4b : ∀ p ∈ ((permN 4).drop 4).take 4, lsTab 4 p = true := by decide +kernel
theorem ls_tab4c : ∀ p ∈ ((permN 4).drop 8).take 4, lsTab 4 p = true := by decide +kernel
theorem ls_tab4d : ∀ p ∈ ((permN 4).drop 12).take 4, lsTab 4 p = true := by decide +kernel
theorem ls_tab4e : ∀ p ∈ ((permN 4).drop 16).take 4, lsTab 4 p = true := by decide +kernel
theorem ls_tab4f : ∀ p ∈ (permN 4).drop 20, lsTab 4 p = true := by decide +kernel
theorem ls_tab {n : Nat} (h4 : n ≤ 4) {p : List Nat} (hp : p ∈ permN n) : lsTab n p = true := by
 rcases Nat.lt_or_ge n 4 with h | h
 ·exact ls_tab3 ⟨n, h⟩ p hp
 ·obtain rfl : n = 4 := by omega
  have cut : ∀ k : Nat, p ∈ (permN 4).drop k → p ∈ ((permN 4).drop k).take 4 ∨ p ∈ (permN 4).drop (k + 4) := by
   intro k hk
   rw [← List.take_append_drop 4 ((permN 4).drop k), List.mem_append, List.drop_drop] at hk
   exact hk
  rcases cut 0 hp with h | h
  ·exact ls_tab4a p h
  ·rcases cut 4 h with h | h
   ·exact ls_tab4b p h
   ·rcases cut 8 h with h | h
    ·exact ls_tab4c p h
    ·rcases cut 12 h with h | h
     ·exact ls_tab4d p h
     ·rcases cut 16 h with h | h
      ·exact ls_tab4e p h
      ·exact ls_tab4f p h
theorem least_few {r u : List Nat} (hs : Sf r u) (h4 : r.length ≤ 4) : ∃ v : Nat, 1 ≤ v ∧ v ≤ 120 ∧ shC (r, u) v = canS r u ∧ Ev (fun k => Z19.f k (I r) (I u)) (v : Int) := by
 have h1 : 1 ≤ r.length := hs.pos
 have hq := perm_mem hs.pu (by have := hs.eq; omega) (by have := hs.eq; omega)
 rw [hs.eq] at hq
 have h := ls_tab h4 (perm_mem hs.pr h1 h4)
 unfold lsTab at h
 have h := List.all_eq_true.mp h u hq
 have hb := surfB_I.mpr hs
 rw [hb] at h
 have h : lsOk (r, u) = true := h
 unfold lsOk at h
 cases e : Z19.f 4000 (I r) (I u) with
 | none =>
  have e' : Z19.f 4000 (I (r, u).1) (I (r, u).2) = none := e
  rw [e'] at h
  cases h
 | some v =>
  have e' : Z19.f 4000 (I (r, u).1) (I (r, u).2) = some v := e
  rw [e'] at h
  have h : lsK v (r, u) = true := h
  unfold lsK at h
  rw [Bool.and_eq_true, Bool.and_eq_true, decide_eq_true_eq, decide_eq_true_eq, decide_eq_true_eq] at h
  obtain ⟨⟨a1, a2⟩, a3⟩ := h
  have ev : ((v.toNat : Nat) : Int) = v := by omega
  refine ⟨v.toNat, by omega, by omega, a3, ?_⟩
  rw [ev]
  exact Ev.of (k := 4000) (fun k => Z19.mono _ _ k) e
end Go.Proofs.Ytcggfjpnfodbaaa.M
end
section
/- The orbit in plain words: the program and the reference run alike. No conditions. -/
namespace Go.Proofs.Ytcggfjpnfodbaaa.M
set_option linter.unusedVariables false
set_option linter.unusedSimpArgs false
open Go.RowKit Go.Proofs.YtcggfjpnfodbaaaW.PrintWords Go.Proofs.YtcggfjpnfodbaaaW.PrintLast Go.Proofs.YtcggfjpnfodbaaaW.PrintMore Go.Proofs.Ytcggfjpnfodbaaa.A
def oS (p : List Nat × List Nat) : S25 := ⟨I p.1, I p.2⟩
def nxt (c : Int) (s : List Nat × List Nat) : List Nat × List Nat := canS (lt c s).1 (lt c s).2
theorem sf_nxt {s : List Nat × List Nat} (hs : Sf s.1 s.2) (c : Int) : Sf (nxt c s).1 (nxt c s).2 := sf_canS (s := lt c s) (sf_lt hs c).1
structure PO where
 L : List (List Nat × List Nat)
 W : List ByteArray
 F : List Int
 B : List Int
 T : List Int
 S : List Int
def PO.orb (s : PO) : Orb := ⟨s.L.map oS, s.W, s.F, s.B, s.T, s.S⟩
def fi (L : List (List Nat × List Nat)) (x : List Nat × List Nat) : Int := if x ∈ L then ((L.idxOf x : Nat) : Int) else -1
def atL (L : List (List Nat × List Nat)) (i : Nat) : List Nat × List Nat := L.getD i ([], [])
def atW (W : List ByteArray) (i : Nat) : ByteArray := rdOf ByteArray.empty W (i : Int)
def stepP (i : Nat) (c : Int) (s : PO) : Option PO :=
 if nxt c (atL s.L i) ∈ s.L then some { s with T := if c = 84 then s.T ++ [((s.L.idxOf (nxt c (atL s.L i)) : Nat) : Int)] else s.T, S := if c = 84 then s.S else s.S ++ [((s.L.idxOf (nxt c (atL s.L i)) : Nat) : Int)] }
 else if s.L.length = 120 then none
 else some ⟨s.L ++ [nxt c (atL s.L i)], s.W ++ [atW s.W i ++ strOfNums [c]], s.F ++ [(i : Int)], s.B ++ [c], if c = 84 then s.T ++ [(s.L.length : Int)] else s.T, if c = 84 then s.S else s.S ++ [(s.L.length : Int)]⟩
def roundP (i : Nat) (s : PO) : Option PO := (stepP i 84 s).bind (stepP i 83)
def lpP : Nat → PO → Nat → Option PO
 | 0, s, _ => some s
 | f + 1, s, i => if i < s.L.length then (roundP i s).bind (fun s' => lpP f s' (i + 1)) else some s
structure Good (s : PO) : Prop where
 sf : ∀ x ∈ s.L, Sf x.1 x.2
 lw : s.W.length = s.L.length
 lf : s.F.length = s.L.length
 lb : s.B.length = s.L.length
 ws : ∀ j, j < s.L.length → (atW s.W j).size ≤ j
 lt : s.T.length ≤ 200
 ls : s.S.length ≤ 200
theorem atL_get {L : List (List Nat × List Nat)} {i : Nat} (h : i < L.length) : atL L i = L[i] := by simp [atL, List.getD_eq_getElem?_getD, h]
theorem atL_mem {L : List (List Nat × List Nat)} {i : Nat} (h : i < L.length) : atL L i ∈ L := by rw [atL_get h]; exact List.getElem_mem h
theorem atL_app {L : List (List Nat × List Nat)} {i : Nat} (h : i < L.length) (x : List Nat × List Nat) : atL (L ++ [x]) i = atL L i := by
 unfold atL
 rw [List.getD_eq_getElem?_getD, List.getD_eq_getElem?_getD, List.getElem?_append_left h]
theorem rd_oS {L : List (List Nat × List Nat)} {i : Nat} (h : i < L.length) : rd_T25 (L.map oS) (i : Int) = oS (atL L i) := by
 unfold rd_T25
 rw [atL_get h]
 simp [List.getD_eq_getElem?_getD, h]
theorem str1 (c : Int) : (strOfNums [c]).size = 1 := by simp [strOfNums, ByteArray.size]
theorem oidx_ev {L : List (List Nat × List Nat)} (hL : ∀ x ∈ L, Sf x.1 x.2) (hl : L.length ≤ 1000) (x : List Nat × List Nat) : Ev (fun k => indexO k (L.map oS) (I x.1) (I x.2)) (fi L x) := by
 unfold indexO
 have c1 : (L.map oS).length < 4611686018427387904 := by rw [List.length_map]; omega
 simp only [c1, if_true]
 have H : ∀ (M : List (List Nat × List Nat)) (i : Nat), (∀ x ∈ M, Sf x.1 x.2) → Ev (fun k => idxS k (I x.1) (I x.2) (M.map oS) i) (if x ∈ M then ((i + M.idxOf x : Nat) : Int) else -1) := by
  intro M
  induction M with
  | nil => intro i _; exact Ev.now _
  | cons y M ih =>
   intro i hM
   have hy := hM y (by simp)
   have ly := hy.le
   have ly2 := hy.eq
   rw [List.map_cons]
   simp only [idxS]
   refine Ev.bind (impl_same y x (by omega) (by omega)) ?_
   by_cases e : y = x
   ·subst e
    simp only [decide_true, if_true, List.mem_cons, true_or, List.idxOf_cons_self, Nat.add_zero]
    exact Ev.now _
   ·have hb : (y == x) = false := beq_eq_false_iff_ne.mpr e
    simp only [e, decide_false, Bool.false_eq_true, if_false]
    have key := ih (i + 1) (fun z hz => hM z (by simp [hz]))
    have e1 : (if x ∈ y :: M then ((i + (y :: M).idxOf x : Nat) : Int) else -1) = (if x ∈ M then ((i + 1 + M.idxOf x : Nat) : Int) else -1) := by
     have e2 : x ∈ y :: M ↔ x ∈ M := by simp [Ne.symm e]
     rw [List.idxOf_cons, hb]
     by_cases hm : x ∈ M
     ·rw [if_pos (e2.mpr hm), if_pos hm]
      simp only [cond_false]
      congr 1
      omega
     ·rw [if_neg (fun h => hm (e2.mp h)), if_neg hm]
    rw [e1]
    exact key
 have key := H L 0 hL
 unfold fi
 simp only [Nat.zero_add] at key
 exact key
theorem fi_neg {L : List (List Nat × List Nat)} {x : List Nat × List Nat} : fi L x < 0 ↔ x ∉ L := by
 unfold fi
 by_cases h : x ∈ L
 ·rw [if_pos h]; constructor
  ·intro h2; omega
  ·intro h2; exact absurd h h2
 ·rw [if_neg h]; simp [h]
theorem let_ok {c : Int} (hc : c = 84 ∨ c = 83) : letB c = true := by
 rcases hc with rfl | rfl <;> rfl
theorem stpO_ev {s : PO} (hg : Good s) {i : Nat} (hi : i < s.L.length) (hl : s.L.length ≤ 120) {c : Int} (hc : c = 84 ∨ c = 83) : Ev (fun k => stpO k (i : Int) c s.orb) ((stepP i c s).map PO.orb) := by
 have hs := hg.sf _ (atL_mem hi)
 have h1 := impl_letter hs c (let_ok hc)
 have h2 := impl_canon (sf_lt hs c).1
 have h3 := oidx_ev hg.sf (by omega) (nxt c (atL s.L i))
 have c1 : (0 : Int) ≤ (i : Int) := by omega
 have c2 : (i : Int) < (s.orb.L.length : Int) := by show (i : Int) < ((s.L.map oS).length : Int); rw [List.length_map]; omega
 unfold stpO
 simp only [c1, c2, if_true]
 have e1 : rd_T25 s.orb.L (i : Int) = oS (atL s.L i) := rd_oS hi
 rw [e1]
 refine Ev.bind h1 (Ev.bind h2 (Ev.bind h3 ?_))
 have el : s.orb.L.length = s.L.length := List.length_map _
 have lw := hg.lw
 have lf := hg.lf
 have lb := hg.lb
 have lt' := hg.lt
 have ls := hg.ls
 by_cases hm : nxt c (atL s.L i) ∈ s.L
 ·have hn : ¬ fi s.L (nxt c (atL s.L i)) < 0 := fun h => fi_neg.mp h hm
  have e2 : fi s.L (nxt c (atL s.L i)) = ((s.L.idxOf (nxt c (atL s.L i)) : Nat) : Int) := if_pos hm
  have c5 : s.orb.T.length < 1000000 ∧ s.orb.S.length < 1000000 := ⟨by show s.T.length < _; omega, by show s.S.length < _; omega⟩
  have e3 : stepP i c s = some { s with T := if c = 84 then s.T ++ [((s.L.idxOf (nxt c (atL s.L i)) : Nat) : Int)] else s.T, S := if c = 84 then s.S else s.S ++ [((s.L.idxOf (nxt c (atL s.L i)) : Nat) : Int)] } := if_pos hm
  rw [e3, e2]
  rw [e2] at hn
  rw [if_neg hn, if_pos c5]
  exact Ev.now _
 ·have hn : fi s.L (nxt c (atL s.L i)) < 0 := fi_neg.mpr hm
  simp only [hn, if_true]
  by_cases h120 : s.L.length = 120
  ·have e3 : stepP i c s = none := by unfold stepP; rw [if_neg hm, if_pos h120]
   have c6 : (s.orb.L.length : Int) = 120 := by rw [el]; omega
   rw [e3, if_pos c6]
   exact Ev.now _
  ·have c6 : ¬ (s.orb.L.length : Int) = 120 := by rw [el]; omega
   have c7 : s.orb.L.length < 1000000 ∧ s.orb.W.length < 1000000 ∧ s.orb.F.length < 1000000 ∧ s.orb.B.length < 1000000 ∧ s.orb.T.length < 1000000 ∧ s.orb.S.length < 1000000 := ⟨by rw [el]; omega, by show s.W.length < _; omega, by show s.F.length < _; omega, by show s.B.length < _; omega, by show s.T.length < _; omega, by show s.S.length < _; omega⟩
   have c8 : (i : Int) < (s.orb.W.length : Int) := by show (i : Int) < (s.W.length : Int); omega
   have c9 : (rdOf ByteArray.empty s.orb.W (i : Int)).size + 1 ≤ 9223372036854775807 := by have := hg.ws i hi; show (atW s.W i).size + 1 ≤ _; omega
   have e3 : stepP i c s = some ⟨s.L ++ [nxt c (atL s.L i)], s.W ++ [atW s.W i ++ strOfNums [c]], s.F ++ [(i : Int)], s.B ++ [c], if c = 84 then s.T ++ [(s.L.length : Int)] else s.T, if c = 84 then s.S else s.S ++ [(s.L.length : Int)]⟩ := by unfold stepP; rw [if_neg hm, if_neg h120]
   rw [e3, if_neg c6, if_pos c7, if_pos c8, if_pos c9]
   have e4 : s.orb.L ++ [(⟨I (canS (lt c (atL s.L i)).1 (lt c (atL s.L i)).2).1, I (canS (lt c (atL s.L i)).1 (lt c (atL s.L i)).2).2⟩ : S25)] = (s.L ++ [nxt c (atL s.L i)]).map oS := by rw [List.map_append]; rfl
   refine Ev.of (k := 0) (fun k => LeO.refl _) ?_
   show some (some (Orb.mk _ _ _ _ _ _)) = some (some (Orb.mk _ _ _ _ _ _))
   rw [e4, el]
   rfl
theorem atW_app {W : List ByteArray} {j : Nat} (h : j < W.length) (x : ByteArray) : atW (W ++ [x]) j = atW W j := by
 unfold atW rdOf
 rw [Int.toNat_natCast, List.getD_eq_getElem?_getD, List.getD_eq_getElem?_getD, List.getElem?_append_left h]
theorem atW_last (W : List ByteArray) (x : ByteArray) : atW (W ++ [x]) W.length = x := by
 unfold atW rdOf
 rw [Int.toNat_natCast, List.getD_eq_getElem?_getD, List.getElem?_append_right (Nat.le_refl _)]
 simp
theorem step_good {s s' : PO} (hg : Good s) {i : Nat} (hi : i < s.L.length) {c : Int} (hT : s.T.length < 200) (hS : s.S.length < 200) (h : stepP i c s = some s') : Good s' ∧ i < s'.L.length ∧ s'.T.length ≤ s.T.length + 1 ∧ s'.S.length ≤ s.S.length + 1 ∧ (s.L.length ≤ 120 → s'.L.length ≤ 120) := by
 have hs := hg.sf _ (atL_mem hi)
 unfold stepP at h
 by_cases hm : nxt c (atL s.L i) ∈ s.L
 ·rw [if_pos hm] at h
  have h := Option.some.inj h
  subst h
  have q1 : (if c = 84 then s.T ++ [((s.L.idxOf (nxt c (atL s.L i)) : Nat) : Int)] else s.T).length ≤ s.T.length + 1 := by split <;> simp
  have q2 : (if c = 84 then s.S else s.S ++ [((s.L.idxOf (nxt c (atL s.L i)) : Nat) : Int)]).length ≤ s.S.length + 1 := by split <;> simp
  exact ⟨⟨hg.sf, hg.lw, hg.lf, hg.lb, hg.ws, by show (if c = 84 then _ else _ : List Int).length ≤ 200; omega, by show (if c = 84 then _ else _ : List Int).length ≤ 200; omega⟩, hi, q1, q2, fun h => h⟩
 ·rw [if_neg hm] at h
  by_cases h120 : s.L.length = 120
  ·rw [if_pos h120] at h; cases h
  ·rw [if_neg h120] at h
   have h := Option.some.inj h
   subst h
   have q1 : (if c = 84 then s.T ++ [(s.L.length : Int)] else s.T).length ≤ s.T.length + 1 := by split <;> simp
   have q2 : (if c = 84 then s.S else s.S ++ [(s.L.length : Int)]).length ≤ s.S.length + 1 := by split <;> simp
   refine ⟨⟨fun x hx => ?_, by simp [hg.lw], by simp [hg.lf], by simp [hg.lb], fun j hj => ?_, by show (if c = 84 then _ else _ : List Int).length ≤ 200; omega, by show (if c = 84 then _ else _ : List Int).length ≤ 200; omega⟩, by simp; omega, q1, q2, fun h => by simp; omega⟩
   ·rcases List.mem_append.mp hx with hx | hx
    ·exact hg.sf x hx
    ·obtain rfl : x = nxt c (atL s.L i) := by simpa using hx
     exact sf_nxt hs c
   ·have hj : j < s.L.length + 1 := by simpa using hj
    show (atW (s.W ++ [atW s.W i ++ strOfNums [c]]) j).size ≤ j
    by_cases e : j = s.L.length
    ·rw [e, ← hg.lw, atW_last, ByteArray.size_append, str1, hg.lw]
     have := hg.ws i hi
     omega
    ·rw [atW_app (by rw [hg.lw]; omega)]
     exact hg.ws j (by omega)
structure GoodU (L : List (List Nat × List Nat)) (W : List ByteArray) : Prop where
 sf : ∀ x ∈ L, Sf x.1 x.2
 lw : W.length = L.length
 ws : ∀ j, j < L.length → (atW W j).size ≤ j
theorem Good.u {s : PO} (h : Good s) : GoodU s.L s.W := ⟨h.sf, h.lw, h.ws⟩
def start0 (a : List Nat × List Nat) : PO := ⟨[canS a.1 a.2], [⟨#[]⟩], [-1], [0], [], []⟩
def orbP (a : List Nat × List Nat) : Option PO := lpP 121 (start0 a) 0
theorem start_good {a : List Nat × List Nat} (ha : Sf a.1 a.2) : Good (start0 a) :=
 ⟨fun x hx => by obtain rfl : x = canS a.1 a.2 := (by simpa [start0] using hx); exact sf_canS ha, rfl, rfl, rfl, fun j hj => by
  have hj : j < 1 := hj
  obtain rfl : j = 0 := by omega
  exact Nat.le_refl _, by simp [start0], by simp [start0]⟩
theorem orb_run : ∀ (f i : Nat) (s : PO), 121 ≤ f + i → Good s → i ≤ s.L.length → s.L.length ≤ 120 → s.T.length ≤ i → s.S.length ≤ i → Ev (fun k => loopO k s.orb (i : Int)) ((lpP f s i).map PO.orb) := by
 intro f
 induction f with
 | zero => intro i s h1 h2 h3 h4; omega
 | succ f ih =>
  intro i s hf hg hi0 hl hT hS
  have el : s.orb.L.length = s.L.length := List.length_map _
  by_cases hi : i < s.L.length
  ·have c1 : (i : Int) < (s.orb.L.length : Int) := by rw [el]; omega
   have e1 := stpO_ev hg hi hl (c := 84) (.inl rfl)
   have eL : lpP (f + 1) s i = (roundP i s).bind (fun s' => lpP f s' (i + 1)) := by rw [lpP, if_pos hi]
   have impl0 : ∀ r : Option Orb, Ev (fun k => innerO k (i : Int) [84, 83] s.orb) r → Ev (fun k => match r with | none => some none | some s' => loopO k s' (wrap64 ((i : Int) + 1))) ((lpP (f + 1) s i).map PO.orb) → Ev (fun k => loopO k s.orb (i : Int)) ((lpP (f + 1) s i).map PO.orb) := by
    intro r h1 h2
    refine ev_succ ?_
    simp only [loopO, c1, if_true]
    exact Ev.bind h1 h2
   cases h84 : stepP i 84 s with
   | none =>
    have en : lpP (f + 1) s i = none := by rw [eL]; unfold roundP; rw [h84]; rfl
    rw [h84] at e1
    rw [en] at impl0 ⊢
    refine impl0 none ?_ (Ev.now _)
    unfold innerO
    exact Ev.bind e1 (Ev.now _)
   | some s1 =>
    obtain ⟨g1, i1, t1, ss1, l1⟩ := step_good hg hi (by omega) (by omega) h84
    have e2 := stpO_ev g1 i1 (l1 hl) (c := 83) (.inr rfl)
    rw [h84] at e1
    have eR : lpP (f + 1) s i = (stepP i 83 s1).bind (fun s' => lpP f s' (i + 1)) := by rw [eL]; unfold roundP; rw [h84]; rfl
    cases h83 : stepP i 83 s1 with
    | none =>
     have en : lpP (f + 1) s i = none := by rw [eR, h83]; rfl
     rw [h83] at e2
     rw [en] at impl0 ⊢
     refine impl0 none ?_ (Ev.now _)
     unfold innerO
     refine Ev.bind e1 ?_
     simp only [innerO]
     exact Ev.bind e2 (Ev.now _)
    | some s2 =>
     obtain ⟨g2, i2, t2, ss2, l2⟩ := step_good g1 i1 (by omega) (by omega) h83
     rw [h83] at e2
     have es : lpP (f + 1) s i = lpP f s2 (i + 1) := by rw [eR, h83]; rfl
     have hT2 : s2.T.length ≤ i + 1 ∧ s2.S.length ≤ i + 1 := by
      have a1 : s1.S.length = s.S.length := by
       unfold stepP at h84
       split at h84
       ·have h := Option.some.inj h84; subst h; rfl
       ·split at h84
        ·cases h84
        ·have h := Option.some.inj h84; subst h; rfl
      have a2 : s2.T.length = s1.T.length := by
       unfold stepP at h83
       split at h83
       ·have h := Option.some.inj h83; subst h; rfl
       ·split at h83
        ·cases h83
        ·have h := Option.some.inj h83; subst h; rfl
      omega
     have k1 := ih (i + 1) s2 (by omega) g2 (by omega) (l2 (l1 hl)) hT2.1 hT2.2
     have c3 := w64s i (by omega)
     rw [es] at impl0 ⊢
     refine impl0 (some s2.orb) ?_ ?_
     ·unfold innerO
      refine Ev.bind e1 ?_
      simp only [innerO]
      refine Ev.bind e2 (Ev.now _)
     ·simp only [c3]
      exact k1
  ·have c1 : ¬ (i : Int) < (s.orb.L.length : Int) := by rw [el]; omega
   have eL : lpP (f + 1) s i = some s := by rw [lpP, if_neg hi]
   rw [eL]
   refine ev_succ ?_
   simp only [loopO, c1, if_false]
   exact Ev.now _
theorem orb_impl {a : List Nat × List Nat} (ha : Sf a.1 a.2) : Ev (fun k => orbitO k (I a.1) (I a.2)) ((orbP a).map PO.orb) := by
 unfold orbitO
 refine Ev.bind (impl_canon ha) ?_
 simp only [if_true]
 exact orb_run 121 0 (start0 a) (by omega) (start_good ha) (Nat.zero_le _) (by simp [start0]) (by simp [start0]) (by simp [start0])
theorem orbO_no {r u : List Int} (h : ¬ surfB r u = true) : Ev (fun k => orbitO k r u) none := by
 unfold orbitO
 refine Ev.bind (impl_canon_no h) ?_
 simp only [Bool.false_eq_true, if_false]
 exact Ev.now _
end Go.Proofs.Ytcggfjpnfodbaaa.M
end
section
/- The orbit's size: the program and the reference agree. No conditions. -/
namespace Go.Proofs.Ytcggfjpnfodbaaa.M
set_option linter.unusedSimpArgs false
open Go.RowKit Go.Proofs.YtcggfjpnfodbaaaW.PrintWords Go.Proofs.YtcggfjpnfodbaaaW.PrintLast Go.Proofs.YtcggfjpnfodbaaaW.PrintMore Go.Proofs.Ytcggfjpnfodbaaa.A
def orbR (r u : List Int) : Option PO := if surfB r u = true then orbP (N r, N u) else none
theorem N_I' (l : List Nat) : N (I l) = l := N_I l
theorem orbR_I {a : List Nat × List Nat} (ha : Sf a.1 a.2) : orbR (I a.1) (I a.2) = orbP a := by
 unfold orbR
 rw [if_pos (surfB_I.mpr ha), N_I', N_I']
theorem orbR_ev (r u : List Int) : Ev (fun k => orbitO k r u) ((orbR r u).map PO.orb) := by
 by_cases h : surfB r u = true
 ·obtain ⟨r', u', rfl, rfl, hs⟩ := surf_nat h
  rw [orbR_I (a := (r', u')) hs]
  exact orb_impl (a := (r', u')) hs
 ·have e : orbR r u = none := if_neg h
  rw [e]
  exact orbO_no h
def idxR : Option PO → Int
 | none => -1
 | some s => (s.L.length : Int)
theorem implIdx_ev (r u : List Int) : Ev (fun k => Z43.f k r u) (idxR (orbR r u)) := by
 unfold Z43.f
 refine Ev.bind (orbR_ev r u) ?_
 cases orbR r u with
 | none => exact Ev.now _
 | some s =>
  have e : s.orb.L.length = s.L.length := List.length_map _
  simp only [Option.map_some, e]
  exact Ev.now _
end Go.Proofs.Ytcggfjpnfodbaaa.M
end
section
/- Is a surface in the orbit: the program and the reference agree. No conditions. -/
namespace Go.Proofs.Ytcggfjpnfodbaaa.M
set_option linter.unusedSimpArgs false
open Go.RowKit Go.Proofs.YtcggfjpnfodbaaaW.PrintWords Go.Proofs.YtcggfjpnfodbaaaW.PrintLast Go.Proofs.YtcggfjpnfodbaaaW.PrintMore Go.Proofs.Ytcggfjpnfodbaaa.A
theorem round_good {s s' : PO} {i : Nat} (hg : Good s) (hi : i < s.L.length) (hl : s.L.length ≤ 120) (hT : s.T.length ≤ i) (hS : s.S.length ≤ i) (h : roundP i s = some s') : Good s' ∧ i < s'.L.length ∧ s'.L.length ≤ 120 ∧ s'.T.length ≤ i + 1 ∧ s'.S.length ≤ i + 1 := by
 unfold roundP at h
 cases h84 : stepP i 84 s with
 | none => rw [h84] at h; cases h
 | some s1 =>
  rw [h84] at h
  have h83 : stepP i 83 s1 = some s' := h
  obtain ⟨g1, i1, t1, ss1, l1⟩ := step_good hg hi (by omega) (by omega) h84
  obtain ⟨g2, i2, t2, ss2, l2⟩ := step_good g1 i1 (by omega) (by omega) h83
  have a1 : s1.S.length = s.S.length := by
   unfold stepP at h84
   split at h84
   ·have h := Option.some.inj h84; subst h; rfl
   ·split at h84
    ·cases h84
    ·have h := Option.some.inj h84; subst h; rfl
  have a2 : s'.T.length = s1.T.length := by
   unfold stepP at h83
   split at h83
   ·have h := Option.some.inj h83; subst h; rfl
   ·split at h83
    ·cases h83
    ·have h := Option.some.inj h83; subst h; rfl
  exact ⟨g2, i2, l2 (l1 hl), by omega, by omega⟩
theorem lp_good : ∀ (f i : Nat) (s s' : PO), Good s → i ≤ s.L.length → s.L.length ≤ 120 → s.T.length ≤ i → s.S.length ≤ i → lpP f s i = some s' → Good s' ∧ s'.L.length ≤ 120 := by
 intro f
 induction f with
 | zero => intro i s s' hg _ hl _ _ h; have h := Option.some.inj h; subst h; exact ⟨hg, hl⟩
 | succ f ih =>
  intro i s s' hg hi hl hT hS h
  rw [lpP] at h
  by_cases c : i < s.L.length
  ·rw [if_pos c] at h
   cases e : roundP i s with
   | none => rw [e] at h; cases h
   | some s1 =>
    rw [e] at h
    obtain ⟨g1, i1, l1, t1, u1⟩ := round_good hg c hl hT hS e
    exact ih (i + 1) s1 s' g1 (by omega) l1 t1 u1 h
  ·rw [if_neg c] at h
   have h := Option.some.inj h
   subst h
   exact ⟨hg, hl⟩
theorem orbP_good {a : List Nat × List Nat} (ha : Sf a.1 a.2) {s : PO} (h : orbP a = some s) : Good s ∧ s.L.length ≤ 120 :=
 lp_good 121 0 (start0 a) s (start_good ha) (Nat.zero_le _) (by simp [start0]) (by simp [start0]) (by simp [start0]) h
theorem orbR_good {r u : List Int} {s : PO} (h : orbR r u = some s) : Good s ∧ s.L.length ≤ 120 := by
 unfold orbR at h
 by_cases c : surfB r u = true
 ·rw [if_pos c] at h
  obtain ⟨r', u', rfl, rfl, hs⟩ := surf_nat c
  rw [N_I', N_I'] at h
  exact orbP_good (a := (r', u')) hs h
 ·rw [if_neg c] at h; cases h
end Go.Proofs.Ytcggfjpnfodbaaa.M
end
section
/- Orbits of surfaces with few squares. No conditions. -/
namespace Go.Proofs.Ytcggfjpnfodbaaa.M
set_option linter.unusedVariables false
set_option linter.unusedSimpArgs false
open Go.RowKit Go.Proofs.YtcggfjpnfodbaaaW.PrintWords Go.Proofs.YtcggfjpnfodbaaaW.PrintLast Go.Proofs.YtcggfjpnfodbaaaW.PrintMore Go.Proofs.Ytcggfjpnfodbaaa.A
def orbC (c : List Nat × List Nat) : Option PO := lpP 121 ⟨[c], [⟨#[]⟩], [-1], [0], [], []⟩ 0
def okO (n : Nat) (c : List Nat × List Nat) : Bool :=
 match orbC c with
 | none => false
 | some o => decide (o.L.length ≤ 26) && decide (o.L.Nodup) && decide (c ∈ o.L) && o.L.all (fun x => decide (x ∈ tabN n) && decide (nxt 84 x ∈ o.L) && decide (nxt 116 x ∈ o.L) && decide (nxt 83 x ∈ o.L) && decide (nxt 115 x ∈ o.L)) && (List.range o.L.length).all (fun i => wordB (atW o.W i) && decide (canS (rn (atW o.W i) c (atW o.W i).size).1 (rn (atW o.W i) c (atW o.W i).size).2 = atL o.L i))
theorem okO_tab3 : ∀ n : Fin 4, ∀ c ∈ tabN n.val, okO n.val c = true := by decide +kernel
theorem okO_tab4a : ∀ c ∈ (tabN 4).take 9, okO 4 c = true := by decide +kernel
theorem okO_tab4b : ∀ c ∈ ((tabN 4).drop 9).take 9, okO 4 c = true := by decide +kernel
theorem okO_tab4c : ∀ c ∈ ((tabN 4).drop 9).drop 9, okO 4 c = true := by decide +kernel
theorem okO_tab4 : ∀ c ∈ tabN 4, okO 4 c = true := by
 intro c hc
 rw [← List.take_append_drop 9 (tabN 4), List.mem_append] at hc
 rcases hc with hc | hc
 ·exact okO_tab4a c hc
 ·rw [← List.take_append_drop 9 ((tabN 4).drop 9), List.mem_append] at hc
  rcases hc with hc | hc
  ·exact okO_tab4b c hc
  ·exact okO_tab4c c hc
structure Orbt (n : Nat) (c : List Nat × List Nat) (o : PO) : Prop where
 eq : orbC c = some o
 le : o.L.length ≤ 26
 nd : o.L.Nodup
 self : c ∈ o.L
 tab : ∀ x ∈ o.L, x ∈ tabN n
 cl : ∀ x ∈ o.L, ∀ l : Int, nxt l x ∈ o.L
 wd : ∀ i, i < o.L.length → wordB (atW o.W i) = true ∧ canS (rn (atW o.W i) c (atW o.W i).size).1 (rn (atW o.W i) c (atW o.W i).size).2 = atL o.L i
theorem orbt_ok {n : Nat} (h4 : n ≤ 4) {c : List Nat × List Nat} (hc : c ∈ tabN n) : ∃ o, Orbt n c o := by
 have h : okO n c = true := by
  rcases Nat.lt_or_ge n 4 with h | h
  ·exact okO_tab3 ⟨n, h⟩ c hc
  ·obtain rfl : n = 4 := by omega
   exact okO_tab4 c hc
 unfold okO at h
 cases e : orbC c with
 | none => rw [e] at h; cases h
 | some o =>
  rw [e] at h
  simp only [Bool.and_eq_true, decide_eq_true_eq, List.all_eq_true, List.mem_range] at h
  obtain ⟨⟨⟨⟨h1, h2⟩, h3⟩, h5⟩, h6⟩ := h
  refine ⟨o, e, h1, h2, h3, fun x hx => (h5 x hx).1.1.1.1, ?_, h6⟩
  intro x hx l
  obtain ⟨⟨⟨⟨_, a1⟩, a2⟩, a3⟩, a4⟩ := h5 x hx
  unfold nxt lt at *
  by_cases l1 : l = 84
  ·subst l1; exact a1
  ·by_cases l2 : l = 116
   ·subst l2; exact a2
   ·by_cases l3 : l = 83
    ·subst l3; exact a3
    ·rw [if_neg l1, if_neg l2, if_neg l3]
     exact a4
theorem can_lt {x y : List Nat × List Nat} (hx : Sf x.1 x.2) (hy : Sf y.1 y.2) (h : canS x.1 x.2 = canS y.1 y.2) (c : Int) : canS (lt c x).1 (lt c x).2 = canS (lt c y).1 (lt c y).2 := by
 obtain ⟨f, a⟩ := (canS_iff hx hy).1 h
 exact canS_of_is (sf_lt hx c).1 (sf_lt hy c).1 (is_lt hx hy a c)
def fewS : Option (List Int × List Int × Bool) → Bool
 | some z => surfB z.1 z.2.1 && decide (z.1.length ≤ 4)
 | none => false
theorem fewS_ok : ∀ {z : Option (List Int × List Int × Bool)}, fewS z = true → ∃ r u b, z = some (I r, I u, b) ∧ Sf r u ∧ r.length ≤ 4
 | some (x, y, b), h => by
  have h' : surfB x y = true ∧ decide (x.length ≤ 4) = true := by simpa [fewS] using h
  obtain ⟨r, u, e1, e2, hs⟩ := surf_nat h'.1
  have h2 : x.length ≤ 4 := of_decide_eq_true h'.2
  refine ⟨r, u, b, by rw [e1, e2], hs, ?_⟩
  rw [e1, I_len] at h2
  exact h2
theorem ell_few : ∀ a : Fin 5, 1 ≤ a.val → fewS (Z55.f 400 (a.val : Int) 1) = true := by decide +kernel
theorem few_draw (b : List Int) (hb : b.length ≤ 1000000000) (i h : Int) (hi : 0 ≤ i) (hl : i ≤ b.length) : ∃ r u i' h', (Sf r u ∧ r.length ≤ 4) ∧ Ev (fun k => Z48.f k b i h 4) (I r, I u, i', h') := by
 obtain ⟨x, i1, h1', e, x0, x1, j0, j1⟩ := below_draw b i h 4 hi hl hb (by omega) (by omega)
 unfold Z48.f
 obtain ⟨n, hn⟩ : ∃ n : Nat, wrap64 (1 + x) = (n : Int) ∧ 1 ≤ n ∧ n ≤ 4 := ⟨(1 + x).toNat, by rw [w64 (by omega) (by omega)]; omega, by omega, by omega⟩
 obtain ⟨hn, n1, n5⟩ := hn
 simp only [e, Option.bind_some, hn]
 clear e hn
 have H : ∀ (d t : Nat) (i h : Int), t + d = 8 → 0 ≤ i → i ≤ (b.length : Int) → ∃ r u i' h', (Sf r u ∧ r.length ≤ 4) ∧ Ev (fun k => Z48.l0 k (n : Int) (t : Int) b i h) (I r, I u, i', h') := by
  intro d
  induction d with
  | zero =>
   intro t i h ht i0 i1
   obtain rfl : t = 8 := by omega
   obtain ⟨r, u, c, e, hs, hl⟩ := fewS_ok (ell_few ⟨n, by omega⟩ n1)
   refine ⟨r, u, i, h, ⟨hs, hl⟩, ev_succ ?_⟩
   have c1 : ¬ (((8 : Nat) : Int) < 8) := by omega
   simp only [Z48.l0, c1, if_false]
   exact Ev.bind (Ev.of (fun k => Z55.mono _ _ _) e) (Ev.now _)
  | succ d ih =>
   intro t i h ht i0 i1
   obtain ⟨p, i2, h2, pl, j0, j1, e1⟩ := perm_draw b hb n (by omega) i h i0 i1
   obtain ⟨q, i3, h3, ql, k0, k1, e2⟩ := perm_draw b hb n (by omega) i2 h2 j0 j1
   have c1 : (t : Int) < 8 := by omega
   have c2 := w64s t (by omega)
   by_cases hs : surfB p q = true
   ·have hs' := hs
    obtain ⟨r, u, rfl, rfl, hsf⟩ := surf_nat hs
    rw [I_len] at pl
    refine ⟨r, u, i3, h3, ⟨hsf, by omega⟩, ev_succ ?_⟩
    simp only [Z48.l0, c1, if_true]
    refine Ev.bind e1 (Ev.bind e2 (Ev.bind (spec_surf _ _) ?_))
    simp only [hs', if_true]
    exact Ev.now _
   ·obtain ⟨r, u, i4, h4, hh, e4⟩ := ih (t + 1) i3 h3 (by omega) k0 k1
    refine ⟨r, u, i4, h4, hh, ev_succ ?_⟩
    simp only [Z48.l0, c1, c2, if_true]
    refine Ev.bind e1 (Ev.bind e2 (Ev.bind (spec_surf _ _) ?_))
    simp only [hs, if_false]
    exact e4
 exact H 8 0 _ _ (by omega) j0 j1
theorem few_ev (b : List Int) (hb : b.length ≤ 1000000000) : ∃ r u, Sf r u ∧ r.length ≤ 4 ∧ Ev (fun k => Z45.f k b) (I r, I u) := by
 obtain ⟨h, e⟩ := new_draw b hb
 obtain ⟨r, u, i', h', ⟨hs, hl⟩, e2⟩ := few_draw b hb 0 h (by omega) (by omega)
 refine ⟨r, u, hs, hl, ?_⟩
 unfold Z45.f
 exact Ev.bind e (Ev.bind e2 (Ev.now _))
end Go.Proofs.Ytcggfjpnfodbaaa.M
end
section
/- Orbits of surfaces with few squares: what the program answers. No conditions. -/
namespace Go.Proofs.Ytcggfjpnfodbaaa.M
set_option linter.unusedVariables false
set_option linter.unusedSimpArgs false
open Go.RowKit Go.Proofs.YtcggfjpnfodbaaaW.PrintWords Go.Proofs.YtcggfjpnfodbaaaW.PrintLast Go.Proofs.YtcggfjpnfodbaaaW.PrintMore Go.Proofs.Ytcggfjpnfodbaaa.A
theorem orbR_few {r u : List Nat} (hs : Sf r u) {o : PO} (h : orbC (canS r u) = some o) : orbR (I r) (I u) = some o := by
 rw [orbR_I (a := (r, u)) hs]
 exact h
end Go.Proofs.Ytcggfjpnfodbaaa.M
end
section
/- The shear as a permutation of the orbit. No conditions. -/
namespace Go.Proofs.Ytcggfjpnfodbaaa.M
set_option linter.unusedVariables false
set_option linter.unusedSimpArgs false
open Go.RowKit Go.Proofs.YtcggfjpnfodbaaaW.PrintWords Go.Proofs.YtcggfjpnfodbaaaW.PrintLast Go.Proofs.YtcggfjpnfodbaaaW.PrintMore Go.Proofs.Ytcggfjpnfodbaaa.A
theorem fi_app {L X : List (List Nat × List Nat)} {y : List Nat × List Nat} (h : y ∈ L) : fi (L ++ X) y = fi L y := by
 unfold fi
 rw [if_pos h, if_pos (List.mem_append_left _ h), List.idxOf_append, if_pos h]
structure TI (s : PO) (i : Nat) : Prop where
 t : s.T = (List.range i).map (fun j => fi s.L (nxt 84 (atL s.L j)))
 m : ∀ j, j < i → nxt 84 (atL s.L j) ∈ s.L
theorem TI_app {s s' : PO} {i : Nat} (h : TI s i) (hi : i ≤ s.L.length) (x : List Nat × List Nat) (hL : s'.L = s.L ++ [x]) (hT : s'.T = s.T) : TI s' i := by
 refine ⟨?_, fun j hj => ?_⟩
 ·rw [hT, h.t, hL]
  apply List.map_congr_left
  intro j hj
  have hj := List.mem_range.mp hj
  rw [atL_app (by omega), fi_app (h.m j hj)]
 ·rw [hL, atL_app (by omega)]
  exact List.mem_append_left _ (h.m j hj)
theorem step84_T {s s' : PO} {i : Nat} (h : TI s i) (hi : i < s.L.length) (e : stepP i 84 s = some s') : TI s' (i + 1) := by
 unfold stepP at e
 split at e
 ·rename_i hm
  have e := Option.some.inj e
  subst e
  refine ⟨?_, fun j hj => ?_⟩
  ·show (if (84 : Int) = 84 then s.T ++ [((s.L.idxOf (nxt 84 (atL s.L i)) : Nat) : Int)] else s.T) = _
   rw [if_pos rfl, List.range_succ, List.map_append, ← h.t]
   congr 1
   show [_] = [fi s.L (nxt 84 (atL s.L i))]
   unfold fi
   rw [if_pos hm]
  ·by_cases ej : j = i
   ·rw [ej]; exact hm
   ·exact h.m j (by omega)
 ·rename_i hm
  split at e
  ·cases e
  ·have e := Option.some.inj e
   subst e
   refine ⟨?_, fun j hj => ?_⟩
   ·show (if (84 : Int) = 84 then s.T ++ [(s.L.length : Int)] else s.T) = (List.range (i + 1)).map (fun j => fi (s.L ++ [nxt 84 (atL s.L i)]) (nxt 84 (atL (s.L ++ [nxt 84 (atL s.L i)]) j)))
    rw [if_pos rfl, List.range_succ, List.map_append, h.t]
    congr 1
    ·apply List.map_congr_left
     intro j hj
     have hj := List.mem_range.mp hj
     rw [atL_app (by omega), fi_app (h.m j hj)]
    ·show [(s.L.length : Int)] = [fi (s.L ++ [nxt 84 (atL s.L i)]) (nxt 84 (atL (s.L ++ [nxt 84 (atL s.L i)]) i))]
     rw [atL_app hi]
     unfold fi
     rw [if_pos (by simp), List.idxOf_append, if_neg hm]
     simp
   ·show nxt 84 (atL (s.L ++ [nxt 84 (atL s.L i)]) j) ∈ s.L ++ [nxt 84 (atL s.L i)]
    rw [atL_app (by omega)]
    by_cases ej : j = i
    ·rw [ej]; simp
    ·exact List.mem_append_left _ (h.m j (by omega))
theorem step83_T {s s' : PO} {i : Nat} {n : Nat} (h : TI s n) (hn : n ≤ s.L.length) (e : stepP i 83 s = some s') : TI s' n := by
 unfold stepP at e
 split at e
 ·have e := Option.some.inj e
  subst e
  exact ⟨h.t, h.m⟩
 ·split at e
  ·cases e
  ·have e := Option.some.inj e
   subst e
   exact TI_app h hn _ rfl rfl
theorem lp_T : ∀ (f i : Nat) (s s' : PO), 121 ≤ f + i → Good s → i ≤ s.L.length → s.L.length ≤ 120 → s.T.length ≤ i → s.S.length ≤ i → TI s i → lpP f s i = some s' → TI s' s'.L.length := by
 intro f
 induction f with
 | zero => intro i s s' h1 _ h2 h3; omega
 | succ f ih =>
  intro i s s' hf hg hi hl hT hS hti h
  rw [lpP] at h
  by_cases c : i < s.L.length
  ·rw [if_pos c] at h
   cases e : roundP i s with
   | none => rw [e] at h; cases h
   | some s1 =>
    rw [e] at h
    obtain ⟨g1, i1, l1, t1, u1⟩ := round_good hg c hl hT hS e
    refine ih (i + 1) s1 s' (by omega) g1 (by omega) l1 t1 u1 ?_ h
    unfold roundP at e
    cases e84 : stepP i 84 s with
    | none => rw [e84] at e; cases e
    | some s0 =>
     rw [e84] at e
     have e83 : stepP i 83 s0 = some s1 := e
     have h0 := step_good hg c (by omega) (by omega) e84
     exact step83_T (step84_T hti c e84) (by have := h0.2.1; omega) e83
  ·rw [if_neg c] at h
   have h := Option.some.inj h
   subst h
   have e : s.L.length = i := by omega
   rw [e]
   exact hti
theorem orbP_T {a : List Nat × List Nat} (ha : Sf a.1 a.2) {s : PO} (h : orbP a = some s) : TI s s.L.length :=
 lp_T 121 0 (start0 a) s (by omega) (start_good ha) (Nat.zero_le _) (by simp [start0]) (by simp [start0]) (by simp [start0]) ⟨rfl, fun j hj => by omega⟩ h
theorem orbR_T {r u : List Int} {s : PO} (h : orbR r u = some s) : TI s s.L.length := by
 unfold orbR at h
 by_cases c : surfB r u = true
 ·rw [if_pos c] at h
  obtain ⟨r', u', rfl, rfl, hs⟩ := surf_nat c
  rw [N_I', N_I'] at h
  exact orbP_T (a := (r', u')) hs h
 ·rw [if_neg c] at h; cases h
theorem step_len {s s' : PO} {i : Nat} {c : Int} (e : stepP i c s = some s') : s.L.length ≤ s'.L.length := by
 unfold stepP at e
 split at e
 ·have e := Option.some.inj e
  subst e
  exact Nat.le_refl _
 ·split at e
  ·cases e
  ·have e := Option.some.inj e
   subst e
   show s.L.length ≤ (s.L ++ [_]).length
   rw [List.length_append]
   omega
theorem lp_len : ∀ (f i : Nat) (s s' : PO), lpP f s i = some s' → s.L.length ≤ s'.L.length := by
 intro f
 induction f with
 | zero => intro i s s' h; have h := Option.some.inj h; subst h; exact Nat.le_refl _
 | succ f ih =>
  intro i s s' h
  rw [lpP] at h
  split at h
  ·cases e : roundP i s with
   | none => rw [e] at h; cases h
   | some s1 =>
    rw [e] at h
    have h1 := ih _ _ _ h
    unfold roundP at e
    cases e84 : stepP i 84 s with
    | none => rw [e84] at e; cases e
    | some s0 =>
     rw [e84] at e
     have e83 : stepP i 83 s0 = some s1 := e
     exact Nat.le_trans (step_len e84) (Nat.le_trans (step_len e83) h1)
  ·have h := Option.some.inj h; subst h; exact Nat.le_refl _
theorem orbR_pos {r u : List Int} {s : PO} (h : orbR r u = some s) : 0 < s.L.length := by
 unfold orbR at h
 by_cases c : surfB r u = true
 ·rw [if_pos c] at h
  exact lp_len _ _ _ _ h
 ·rw [if_neg c] at h; cases h
end Go.Proofs.Ytcggfjpnfodbaaa.M
end
section
/- The cusps: the program and the reference agree. No conditions. -/
namespace Go.Proofs.Ytcggfjpnfodbaaa.M
set_option linter.unusedVariables false
set_option linter.unusedSimpArgs false
open Go.RowKit Go.Proofs.YtcggfjpnfodbaaaW.PrintWords Go.Proofs.YtcggfjpnfodbaaaW.PrintLast Go.Proofs.YtcggfjpnfodbaaaW.PrintMore Go.Proofs.Ytcggfjpnfodbaaa.A
theorem sort_ints (l : List Nat) (hl : l.length ≤ 1000) (h : ∀ y ∈ l, y ≤ 1000) : Z2.f (I l) = some (I (sortD l)) := by
 unfold Z2.f
 have e1 : (I l).map Int.toNat = l := N_I _
 have e2 : ∀ x ∈ I l, 0 ≤ x ∧ x ≤ 4611686018427387904 := by
  intro x hx
  obtain ⟨y, hy, rfl⟩ := List.mem_map.mp hx
  have := h y hy
  show 0 ≤ (y : Int) ∧ (y : Int) ≤ 4611686018427387904
  omega
 rw [if_pos ⟨e2, by rw [I_len]; omega⟩, e1]
 rfl
theorem cnt_set {seen : List Bool} {x : Nat} (hx : x < seen.length) (h : rdOf false seen (x : Int) = false) : (seen.set x true).count false + 1 = seen.count false := by
 have e : seen[x] = false := by
  have : rdOf false seen (x : Int) = seen[x] := by unfold rdOf; rw [Int.toNat_natCast, List.getD_eq_getElem?_getD, List.getElem?_eq_getElem hx]; rfl
  rw [← this]; exact h
 have hp : 0 < seen.count false := List.count_pos_iff.mpr (by rw [← e]; exact List.getElem_mem hx)
 rw [List.count_set hx, e]
 simp
 omega
end Go.Proofs.Ytcggfjpnfodbaaa.M
end
section
/- Cusps of surfaces with few squares. No conditions. -/
namespace Go.Proofs.Ytcggfjpnfodbaaa.M
set_option linter.unusedVariables false
set_option linter.unusedSimpArgs false
open Go.RowKit Go.Proofs.YtcggfjpnfodbaaaW.PrintWords Go.Proofs.YtcggfjpnfodbaaaW.PrintLast Go.Proofs.YtcggfjpnfodbaaaW.PrintMore Go.Proofs.Ytcggfjpnfodbaaa.A
theorem sf_sh {s : PT} (hs : Sf s.1 s.2) : ∀ j, Sf (shI j s).1 (shI j s).2
 | 0 => hs
 | j + 1 => (sf_lt (sf_sh hs j) 84).1
theorem shC_det {s : PT} (hs : Sf s.1 s.2) {a b : Nat} (h : shC s a = shC s b) : ∀ t, shC s (a + t) = shC s (b + t)
 | 0 => h
 | t + 1 => can_lt (sf_sh hs (a + t)) (sf_sh hs (b + t)) (shC_det hs h t) 84
theorem least_of {P : Nat → Prop} : ∀ v, P v → ∃ m, P m ∧ m ≤ v ∧ ∀ j, j < m → ¬ P j := by
 intro v
 induction v using Nat.strongRecOn with
 | _ v ih =>
  intro hv
  by_cases h : ∃ j, j < v ∧ P j
  ·obtain ⟨j, hj, hp⟩ := h
   obtain ⟨m, h1, h2, h3⟩ := ih j hj hp
   exact ⟨m, h1, by omega, h3⟩
  ·exact ⟨v, hv, Nat.le_refl _, fun j hj hp => h ⟨j, hj, hp⟩⟩
structure Per (s : PT) (m : Nat) : Prop where
 pos : 1 ≤ m
 bk : shC s m = shC s 0
 no : ∀ j, 1 ≤ j → j < m → shC s j ≠ shC s 0
theorem per_ex {s : PT} {v : Nat} (h1 : 1 ≤ v) (h : shC s v = shC s 0) : ∃ m, Per s m ∧ m ≤ v := by
 obtain ⟨m, ⟨a1, a2⟩, a3, a4⟩ := least_of (P := fun j => 1 ≤ j ∧ shC s j = shC s 0) v ⟨h1, h⟩
 exact ⟨m, ⟨a1, a2, fun j b1 b2 e => a4 j b2 ⟨b1, e⟩⟩, a3⟩
theorem Per.mul {s : PT} (hs : Sf s.1 s.2) {m : Nat} (h : Per s m) : ∀ q, shC s (q * m) = shC s 0
 | 0 => by rw [Nat.zero_mul]
 | q + 1 => by
  have h1 := shC_det hs (Per.mul hs h q) m
  rw [Nat.zero_add] at h1
  rw [Nat.add_mul, Nat.one_mul, h1]
  exact h.bk
theorem Per.dvd {s : PT} (hs : Sf s.1 s.2) {m : Nat} (h : Per s m) {v : Nat} (hv : shC s v = shC s 0) : v % m = 0 := by
 have h1 := shC_det hs (Per.mul hs h (v / m)) (v % m)
 have e : v / m * m + v % m = v := by rw [Nat.mul_comm]; exact Nat.div_add_mod v m
 rw [e, Nat.zero_add, hv] at h1
 apply Classical.byContradiction
 intro hn
 have hp := h.pos
 exact h.no (v % m) (by omega) (Nat.mod_lt _ (by omega)) h1.symm
theorem Per.inj {s : PT} (hs : Sf s.1 s.2) {m : Nat} (h : Per s m) {a b : Nat} (hab : a < b) (hb : b < m) : shC s a ≠ shC s b := by
 intro e
 have h1 := shC_det hs e (m - a)
 have h2 := shC_det hs h.bk (b - a)
 have e1 : a + (m - a) = m := by omega
 have e2 : b + (m - a) = m + (b - a) := by omega
 rw [e1, e2, h2, Nat.zero_add, h.bk] at h1
 exact h.no (b - a) (by omega) (by omega) h1.symm
theorem impl_shear1 {s : PT} (hs : Sf s.1 s.2) : Ev (fun k => Z15.f k (I s.1) (I s.2)) (I (lt 84 s).1, I (lt 84 s).2, true) := by
 have hle := hs.le
 have h0 := surfB_I.mpr hs
 have k1 := copy_ev (I s.1) (by rw [I_len]; omega)
 have el : lt 84 s = (s.1, thn (inv s.1) s.2) := if_pos rfl
 rw [el]
 unfold Z15.f
 refine Ev.bind (impl_surf _ _) ?_
 simp only [h0, k1, if_true, Option.bind_some]
 exact Ev.bind (impl_inv hs.pr hs.le) (Ev.bind (impl_then (isP_inv hs.pr) hs.pu (by rw [inv_len, hs.eq]) (by rw [inv_len]; exact hs.le)) (Ev.now _))
theorem period_ev {s : PT} (hs : Sf s.1 s.2) {m : Nat} (h : Per s m) (hm : m ≤ 1000) : Ev (fun k => Z21.f k (I s.1) (I s.2)) (m : Int) := by
 have hle := hs.le
 have heq := hs.eq
 have k1 := copy_ev (I s.1) (by rw [I_len]; omega)
 have k2 := copy_ev (I s.2) (by rw [I_len]; omega)
 unfold Z21.f
 refine Ev.bind (impl_canon hs) ?_
 simp only [if_true, Z23.f, k1, k2, Option.bind_some]
 have hp := h.pos
 have H : ∀ d i : Nat, i + 1 + d = m → Ev (fun k => Z21.l0 k ((i + 1 : Nat) : Int) (I (canS s.1 s.2).1) (I (canS s.1 s.2).2) (I (shI i s).1) (I (shI i s).2)) (m : Int) := by
  intro d
  induction d with
  | zero =>
   intro i hi
   have h1 := sf_canS (sf_sh hs (i + 1))
   have h2 := h1.le
   have h3 := h1.eq
   refine ev_succ ?_
   simp only [Z21.l0]
   refine Ev.bind (impl_letter (sf_sh hs i) 84 rfl) (Ev.bind (impl_canon (sf_sh hs (i + 1))) (Ev.bind (impl_same (canS (shI (i + 1) s).1 (shI (i + 1) s).2) (canS s.1 s.2) (by omega) (by omega)) ?_))
   have e : canS (shI (i + 1) s).1 (shI (i + 1) s).2 = canS s.1 s.2 := by
    have : i + 1 = m := by omega
    have hb := h.bk
    rw [← this] at hb
    exact hb
   simp only [decide_eq_true e, if_true]
   have : i + 1 = m := by omega
   rw [this]
   exact Ev.now _
  | succ d ih =>
   intro i hi
   have h1 := sf_canS (sf_sh hs (i + 1))
   have h2 := h1.le
   have h3 := h1.eq
   refine ev_succ ?_
   simp only [Z21.l0]
   refine Ev.bind (impl_letter (sf_sh hs i) 84 rfl) (Ev.bind (impl_canon (sf_sh hs (i + 1))) (Ev.bind (impl_same (canS (shI (i + 1) s).1 (shI (i + 1) s).2) (canS s.1 s.2) (by omega) (by omega)) ?_))
   have e : ¬ canS (shI (i + 1) s).1 (shI (i + 1) s).2 = canS s.1 s.2 := h.no (i + 1) (by omega) (by omega)
   have c3 := w64s (i + 1) (by omega)
   simp only [decide_eq_false e, Bool.false_eq_true, if_false, c3]
   exact ih (i + 1) (by omega)
 exact H (m - 1) 0 (by omega)
theorem restore_ev {s : PT} (hs : Sf s.1 s.2) {m : Nat} (h : Per s m) (hm : m ≤ 1000) : Ev (fun k => Z44.l0 k (m : Int) 0 (I s.1) (I s.2) (I s.1) (I s.2)) true := by
 have H : ∀ d i : Nat, i + d = m → Ev (fun k => Z44.l0 k (m : Int) (i : Int) (I s.1) (I s.2) (I (shI i s).1) (I (shI i s).2)) true := by
  intro d
  induction d with
  | zero =>
   intro i hi
   obtain rfl : i = m := by omega
   have c1 : ¬ ((i : Int) < (i : Int)) := by omega
   have e : canS (shI i s).1 (shI i s).2 = canS s.1 s.2 := h.bk
   have k1 := impl_iso (sf_sh hs i) hs
   rw [decide_eq_true e] at k1
   refine ev_succ ?_
   simp only [Z44.l0, c1, if_false]
   exact Ev.bind k1 (Ev.now _)
  | succ d ih =>
   intro i hi
   have c1 : (i : Int) < (m : Int) := by omega
   have c3 := w64s i (by omega)
   have J : Ev (fun k => Z44.j2 k (m : Int) (i : Int) false (I s.1) (I s.2) (I (shI i s).1) (I (shI i s).2)) true := by
    refine ev_succ ?_
    simp only [Z44.j2, Bool.false_eq_true, if_false]
    refine Ev.bind (impl_shear1 (sf_sh hs i)) ?_
    simp only [if_true, c3]
    exact ih (i + 1) (by omega)
   refine ev_succ ?_
   simp only [Z44.l0, c1, if_true]
   by_cases c2 : (i : Int) > 0
   ·have e : ¬ canS (shI i s).1 (shI i s).2 = canS s.1 s.2 := h.no i (by omega) (by omega)
    have k1 := impl_iso (sf_sh hs i) hs
    rw [decide_eq_false e] at k1
    simp only [c2, if_true]
    exact Ev.bind k1 J
   ·simp only [c2, if_false]
    exact J
 exact H m 0 (Nat.zero_add _)
theorem rd_setB {seen : List Bool} {x j : Nat} (hx : x < seen.length) : rdOf false (seen.set x true) (j : Int) = if x = j then true else rdOf false seen (j : Int) := by
 unfold rdOf
 rw [Int.toNat_natCast, List.getD_eq_getElem?_getD, List.getD_eq_getElem?_getD, List.getElem?_set]
 by_cases e : x = j
 ·subst e
  simp [hx]
 ·simp [e]
theorem seen_lt {seen : List Bool} {x : Nat} (hx : x < seen.length) (h : seen.count false = 0) : rdOf false seen (x : Int) = true := by
 cases e : rdOf false seen (x : Int) with
 | true => rfl
 | false => have := cnt_set hx e; omega
theorem cusps_gen (T : List Int) (n : Nat) (hT : T.length = n) (hn : n ≤ 120) (hr : ∀ j : Nat, j < n → ∃ y : Nat, y < n ∧ rd T (j : Int) = (y : Int)) (m : Nat) : ∀ d i, i + d = n → ∀ (out : List Nat) (seen : List Bool), seen.length = n → out.length ≤ i → out.sum + seen.count false = n → (∀ y ∈ out, y ≤ n) → (∀ j : Nat, j < i → rdOf false seen (j : Int) = true) → m ∈ out →
  ∃ l : List Nat, l.sum = n ∧ m ∈ l ∧ l.length ≤ n ∧ Ev (fun k => Z42.l0 k T (I out) seen (n : Int) (i : Int)) (I l, true) := by
 intro d
 induction d with
 | zero =>
  intro i hi out seen hs ho hsum hy hsn hm
  obtain rfl : i = n := by omega
  have c1 : ¬ ((i : Int) < (i : Int)) := by omega
  have hz : seen.count false = 0 := by
   apply Classical.byContradiction
   intro hne
   have hp : 0 < seen.count false := by omega
   obtain ⟨j, hj, ej⟩ := List.mem_iff_getElem.mp (List.count_pos_iff.mp hp)
   have h1 := hsn j (by omega)
   have h2 : rdOf false seen (j : Int) = seen[j] := by unfold rdOf; rw [Int.toNat_natCast, List.getD_eq_getElem?_getD, List.getElem?_eq_getElem hj]; rfl
   rw [h2, ej] at h1
   cases h1
  refine ⟨sortD out, ?_, (sortD_perm out).mem_iff.mpr hm, by rw [sortD_len]; exact ho, ev_succ ?_⟩
  ·rw [(sortD_perm out).sum_nat]; omega
  ·have e := sort_ints out (by omega) (fun y h => by have := hy y h; omega)
   simp only [Z42.l0, c1, if_false, e, Option.bind_some]
   exact Ev.now _
 | succ d ih =>
  intro i hi out seen hs ho hsum hy hsn hm
  have hin : i < n := by omega
  have c1 : (i : Int) < (n : Int) := by omega
  have c3 := w64s i (by omega)
  have H : ∀ (q : Nat) (seen : List Bool), seen.length = n → seen.count false = q → ∀ c x : Nat, out.sum + c + q = n → x < n → (∀ j : Nat, j < i → rdOf false seen (j : Int) = true) → (rdOf false seen (i : Int) = true ∨ x = i) →
    ∃ l : List Nat, l.sum = n ∧ m ∈ l ∧ l.length ≤ n ∧ Ev (fun k => Z42.l1 k T (I out) seen (c : Int) (x : Int) (n : Int) (i : Int)) (I l, true) := by
   intro q
   induction q with
   | zero =>
    intro seen hs hc c x hcm hx hsn hxi
    have b := seen_lt (seen := seen) (x := x) (by omega) hc
    have d1 : (0 : Int) ≤ (x : Int) := by omega
    have d2 : (x : Int) < (seen.length : Int) := by omega
    have hsn' : ∀ j : Nat, j < i + 1 → rdOf false seen (j : Int) = true := fun j hj => seen_lt (by omega) hc
    by_cases d3 : (c : Int) > 0
    ·obtain ⟨l, h0, h1, h2, h3⟩ := ih (i + 1) (by omega) (out ++ [c]) seen hs (by rw [List.length_append, List.length_singleton]; omega) (by rw [List.sum_append]; simp; omega) (fun y h => by
      rcases List.mem_append.mp h with h | h
      ·exact hy y h
      ·obtain rfl : y = c := by simpa using h
       omega) hsn' (List.mem_append_left _ hm)
     have d4 : (I out).length < 17592186044416 := by rw [I_len]; omega
     have e1 : I out ++ [(c : Int)] = I (out ++ [c]) := by show I out ++ I [c] = I (out ++ [c]); rw [I_app]
     refine ⟨l, h0, h1, h2, ev_succ ?_⟩
     simp only [Z42.l1, d1, d2, b, d3, d4, c3, e1, if_true]; exact h3
    ·obtain ⟨l, h0, h1, h2, h3⟩ := ih (i + 1) (by omega) out seen hs (by omega) (by omega) hy hsn' hm
     refine ⟨l, h0, h1, h2, ev_succ ?_⟩
     simp only [Z42.l1, d1, d2, b, d3, c3, if_true, if_false]; exact h3
   | succ q ihq =>
    intro seen hs hc c x hcm hx hsn hxi
    have d1 : (0 : Int) ≤ (x : Int) := by omega
    have d2 : (x : Int) < (seen.length : Int) := by omega
    cases b : rdOf false seen (x : Int) with
    | true =>
     have hsn' : ∀ j : Nat, j < i + 1 → rdOf false seen (j : Int) = true := fun j hj => by
      by_cases e : j = i
      ·rcases hxi with h | h
       ·rw [e]; exact h
       ·rw [e, ← h]; exact b
      ·exact hsn j (by omega)
     by_cases d3 : (c : Int) > 0
     ·obtain ⟨l, h0, h1, h2, h3⟩ := ih (i + 1) (by omega) (out ++ [c]) seen hs (by rw [List.length_append, List.length_singleton]; omega) (by rw [List.sum_append]; simp; omega) (fun y h => by
       rcases List.mem_append.mp h with h | h
       ·exact hy y h
       ·obtain rfl : y = c := by simpa using h
        omega) hsn' (List.mem_append_left _ hm)
      have d4 : (I out).length < 17592186044416 := by rw [I_len]; omega
      have e1 : I out ++ [(c : Int)] = I (out ++ [c]) := by show I out ++ I [c] = I (out ++ [c]); rw [I_app]
      refine ⟨l, h0, h1, h2, ev_succ ?_⟩
      simp only [Z42.l1, d1, d2, b, d3, d4, c3, e1, if_true]; exact h3
     ·obtain ⟨l, h0, h1, h2, h3⟩ := ih (i + 1) (by omega) out seen hs (by omega) (by omega) hy hsn' hm
      refine ⟨l, h0, h1, h2, ev_succ ?_⟩
      simp only [Z42.l1, d1, d2, b, d3, c3, if_true, if_false]; exact h3
    | false =>
     have hxl : x < seen.length := by omega
     have hc2 := cnt_set hxl b
     obtain ⟨y, hyn, ey⟩ := hr x hx
     have hsl : (seen.set x true).length = n := by rw [List.length_set]; exact hs
     have up : ∀ j : Nat, rdOf false seen (j : Int) = true → rdOf false (seen.set x true) (j : Int) = true := fun j h => by
      rw [rd_setB hxl]
      split
      ·rfl
      ·exact h
     obtain ⟨l, h0, h1, h2, h3⟩ := ihq (seen.set x true) hsl (by omega) (c + 1) y (by omega) hyn (fun j hj => up j (hsn j hj)) (.inl (by
      rcases hxi with h | h
      ·exact up i h
      ·rw [rd_setB hxl, if_pos h]))
     have d5 : (x : Int) < (T.length : Int) := by omega
     have d6 := w64s c (by omega)
     refine ⟨l, h0, h1, h2, ev_succ ?_⟩
     simp only [Z42.l1, d1, d2, b, d5, d6, ey, Int.toNat_natCast, if_true, if_false, Bool.false_eq_true]; exact h3
  obtain ⟨l, h0, h1, h2, h3⟩ := H (seen.count false) seen hs rfl 0 i (by omega) hin hsn (.inr rfl)
  refine ⟨l, h0, h1, h2, ev_succ ?_⟩
  simp only [Z42.l0, c1, if_true]; exact h3
theorem cusps_first (T : List Int) (n : Nat) (hT : T.length = n) (hn : n ≤ 120) (h0n : 0 < n) (hr : ∀ j : Nat, j < n → ∃ y : Nat, y < n ∧ rd T (j : Int) = (y : Int)) (t : Nat → Nat) (t0 : t 0 = 0) (tn : ∀ j, t j < n) (ts : ∀ j, rd T (t j : Int) = (t (j + 1) : Int)) (m : Nat) (hm : 1 ≤ m) (tm : t m = 0) (ti : ∀ a b, a < b → b < m → t a ≠ t b) :
  ∃ l : List Nat, l.sum = n ∧ m ∈ l ∧ l.length ≤ n ∧ Ev (fun k => Z42.l0 k T (I []) (List.replicate n false) (n : Int) 0) (I l, true) := by
 have H : ∀ d j : Nat, j + d = m → ∀ seen : List Bool, seen.length = n → j + seen.count false = n → (∀ a : Nat, rdOf false seen (a : Int) = true ↔ ∃ b, b < j ∧ t b = a) →
   ∃ l : List Nat, l.sum = n ∧ m ∈ l ∧ l.length ≤ n ∧ Ev (fun k => Z42.l1 k T (I []) seen (j : Int) (t j : Int) (n : Int) ((0 : Nat) : Int)) (I l, true) := by
  intro d
  induction d with
  | zero =>
   intro j hj seen hs hc hsn
   obtain rfl : j = m := by omega
   have s0 : rdOf false seen ((0 : Nat) : Int) = true := (hsn 0).mpr ⟨0, by omega, t0⟩
   have d1 : (0 : Int) ≤ ((0 : Nat) : Int) := by omega
   have d2 : ((0 : Nat) : Int) < (seen.length : Int) := by omega
   have d3 : (j : Int) > 0 := by omega
   have d4 : (I []).length < 17592186044416 := by rw [I_len]; simp
   have e1 : I [] ++ [(j : Int)] = I [j] := rfl
   have c3 := w64s 0 (by omega)
   obtain ⟨l, h0, h1, h2, h3⟩ := cusps_gen T n hT hn hr j (n - 1) 1 (by omega) [j] seen hs (by simp) (by simp; omega) (fun y h => by
    obtain rfl : y = j := by simpa using h
    omega) (fun a ha => by
    obtain rfl : a = 0 := by omega
    exact s0) (by simp)
   refine ⟨l, h0, h1, h2, ev_succ ?_⟩
   rw [tm]
   simp only [Z42.l1, d1, d2, s0, d3, d4, e1, c3, if_true]
   exact h3
  | succ d ih =>
   intro j hj seen hs hc hsn
   have hx : t j < seen.length := by rw [hs]; exact tn j
   have b : rdOf false seen (t j : Int) = false := by
    cases e : rdOf false seen (t j : Int) with
    | false => rfl
    | true =>
     obtain ⟨b, hb, eb⟩ := (hsn (t j)).mp e
     exact absurd eb (ti b j hb (by omega))
   have hc2 := cnt_set hx b
   have d1 : (0 : Int) ≤ (t j : Int) := by omega
   have d2 : (t j : Int) < (seen.length : Int) := by omega
   have d5 : (t j : Int) < (T.length : Int) := by omega
   obtain ⟨l, h0, h1, h2, h3⟩ := ih (j + 1) (by omega) (seen.set (t j) true) (by rw [List.length_set]; exact hs) (by omega) (fun a => by
    rw [rd_setB hx]
    constructor
    ·intro h
     by_cases e : t j = a
     ·exact ⟨j, by omega, e⟩
     ·rw [if_neg e] at h
      obtain ⟨b, hb, eb⟩ := (hsn a).mp h
      exact ⟨b, by omega, eb⟩
    ·rintro ⟨b, hb, eb⟩
     by_cases e : t j = a
     ·rw [if_pos e]
     ·rw [if_neg e]
      refine (hsn a).mpr ⟨b, ?_, eb⟩
      apply Classical.byContradiction
      intro hn2
      have : b = j := by omega
      rw [this] at eb
      exact e eb)
   have d6 := w64s j (by have := List.count_le_length (a := false) (l := seen); omega)
   refine ⟨l, h0, h1, h2, ev_succ ?_⟩
   simp only [Z42.l1, d1, d2, b, d5, d6, ts j, Int.toNat_natCast, if_true, if_false, Bool.false_eq_true]
   exact h3
 obtain ⟨l, h0, h1, h2, h3⟩ := H m 0 (Nat.zero_add _) (List.replicate n false) (by simp) (by simp) (fun a => by
  constructor
  ·intro h
   unfold rdOf at h
   rw [Int.toNat_natCast, List.getD_eq_getElem?_getD, List.getElem?_replicate] at h
   split at h <;> cases h
  ·rintro ⟨b, hb, _⟩
   omega)
 rw [t0] at h3
 have c1 : (0 : Int) < (n : Int) := by omega
 refine ⟨l, h0, h1, h2, ev_succ ?_⟩
 simp only [Z42.l0, c1, if_true]
 exact h3
theorem step_head {s s' : PO} {i : Nat} {c : Int} (h0 : 0 < s.L.length) (e : stepP i c s = some s') : 0 < s'.L.length ∧ atL s'.L 0 = atL s.L 0 := by
 unfold stepP at e
 split at e
 ·have e := Option.some.inj e
  subst e
  exact ⟨h0, rfl⟩
 ·split at e
  ·cases e
  ·have e := Option.some.inj e
   subst e
   exact ⟨by simp, atL_app h0 _⟩
theorem lp_head : ∀ (f i : Nat) (s s' : PO), 0 < s.L.length → lpP f s i = some s' → atL s'.L 0 = atL s.L 0 := by
 intro f
 induction f with
 | zero => intro i s s' _ h; have h := Option.some.inj h; subst h; rfl
 | succ f ih =>
  intro i s s' h0 h
  rw [lpP] at h
  split at h
  ·cases e : roundP i s with
   | none => rw [e] at h; cases h
   | some s1 =>
    rw [e] at h
    unfold roundP at e
    cases e84 : stepP i 84 s with
    | none => rw [e84] at e; cases e
    | some s2 =>
     rw [e84] at e
     have e83 : stepP i 83 s2 = some s1 := e
     have a1 := step_head h0 e84
     have a2 := step_head a1.1 e83
     have h1 : lpP f s1 (i + 1) = some s' := h
     rw [ih _ _ _ a2.1 h1, a2.2, a1.2]
  ·have h := Option.some.inj h; subst h; rfl
theorem cusps_few {r u : List Nat} (hs : Sf r u) (h4 : r.length ≤ 4) {o : PO} (ho : Orbt r.length (canS r u) o) {m : Nat} (hp : Per (r, u) m) : ∃ l : List Nat, l.sum = o.L.length ∧ m ∈ l ∧ l.length ≤ 120 ∧ Ev (fun k => Z42.f k (I r) (I u)) (I l, true) := by
 have e : orbR (I r) (I u) = some o := orbR_few hs ho.eq
 have hO := orbR_ev (I r) (I u)
 rw [e] at hO
 obtain ⟨hg, hl⟩ := orbR_good e
 have ht := orbR_T e
 have hpos := orbR_pos e
 have hTl : o.T.length = o.L.length := by rw [ht.t, List.length_map, List.length_range]
 have hst : ∀ j : Nat, j < o.L.length → rd o.T (j : Int) = ((o.L.idxOf (nxt 84 (atL o.L j)) : Nat) : Int) := by
  intro j hj
  have e1 : fi o.L (nxt 84 (atL o.L j)) = ((o.L.idxOf (nxt 84 (atL o.L j)) : Nat) : Int) := if_pos (ht.m j hj)
  rw [ht.t, ← e1]
  unfold rd
  rw [Int.toNat_natCast, List.getD_eq_getElem?_getD]
  simp [hj]
 have hrd : ∀ j : Nat, j < o.L.length → ∃ y : Nat, y < o.L.length ∧ rd o.T (j : Int) = (y : Int) := fun j hj => ⟨_, List.idxOf_lt_length_of_mem (ht.m j hj), hst j hj⟩
 have hhead : atL o.L 0 = canS r u := lp_head 121 0 _ o (by simp) ho.eq
 have nx : ∀ j, shC (r, u) (j + 1) = nxt 84 (shC (r, u) j) := by
  intro j
  have h1 := sf_sh (s := (r, u)) hs j
  have h2 := canS_mem h1
  have hlen : (shI j (r, u)).1.length ≤ 4 := by
   have hl : ∀ j, (shI j (r, u)).1.length = r.length := by
    intro j
    induction j with
    | zero => rfl
    | succ j ih => exact (sf_lt (sf_sh (s := (r, u)) hs j) 84).2.trans ih
   rw [hl]; exact h4
  have h3 := h2 hlen
  have h5 := can_tab ⟨_, by omega⟩ _ h3
  exact can_lt h1 (sf_canS h1) (by rw [h5]) 84
 have mem : ∀ j, shC (r, u) j ∈ o.L := by
  intro j
  induction j with
  | zero => exact ho.self
  | succ j ih => rw [nx]; exact ho.cl _ ih 84
 have tn : ∀ j, o.L.idxOf (shC (r, u) j) < o.L.length := fun j => List.idxOf_lt_length_of_mem (mem j)
 have atT : ∀ j, atL o.L (o.L.idxOf (shC (r, u) j)) = shC (r, u) j := fun j => by rw [atL_get (tn j)]; exact List.getElem_idxOf (tn j)
 have t0 : o.L.idxOf (shC (r, u) 0) = 0 := by
  have h1 : shC (r, u) 0 = o.L[0] := by rw [← atL_get hpos, hhead]; rfl
  rw [h1, ho.nd.idxOf_getElem]
 obtain ⟨l, h0, h1, h2, h3⟩ := cusps_first o.T o.L.length hTl hl hpos hrd (fun j => o.L.idxOf (shC (r, u) j)) t0 tn (fun j => by rw [hst _ (tn j), atT, ← nx]) m hp.pos (by show o.L.idxOf (shC (r, u) m) = 0; rw [hp.bk]; exact t0) (fun a b hab hb e => hp.inj hs hab hb (by rw [← atT a, ← atT b]; exact congrArg _ e))
 refine ⟨l, h0, h1, by omega, ?_⟩
 unfold Z42.f
 refine Ev.bind hO ?_
 have el : o.orb.L.length = o.L.length := List.length_map _
 have q3 : o.orb.L.length ≤ 281474976710656 ∧ 0 < o.orb.T.length := ⟨by rw [el]; omega, by show 0 < o.T.length; omega⟩
 simp only [Option.map_some, q3, if_true, and_self]
 rw [el]
 exact h3
end Go.Proofs.Ytcggfjpnfodbaaa.M
end
section
/- The cylinders: rows, and the program. No conditions. -/
namespace Go.Proofs.Ytcggfjpnfodbaaa.M
set_option linter.unusedVariables false
set_option linter.unusedSimpArgs false
open Go.RowKit Go.Proofs.YtcggfjpnfodbaaaW.PrintWords Go.Proofs.YtcggfjpnfodbaaaW.PrintLast Go.Proofs.YtcggfjpnfodbaaaW.PrintMore Go.Proofs.Ytcggfjpnfodbaaa.A
def hd (l : List (List Nat)) (j : Nat) : Nat := (l.getD j []).headD 0
end Go.Proofs.Ytcggfjpnfodbaaa.M
end
section
/- The cylinders: the reference marks a class. No conditions. -/
namespace Go.Proofs.Ytcggfjpnfodbaaa.M
set_option linter.unusedVariables false
set_option linter.unusedSimpArgs false
open Go.RowKit Go.Proofs.YtcggfjpnfodbaaaW.PrintWords Go.Proofs.YtcggfjpnfodbaaaW.PrintLast Go.Proofs.YtcggfjpnfodbaaaW.PrintMore Go.Proofs.Ytcggfjpnfodbaaa.A
theorem Mk.len {n : Nat} {up : Nat → Option Nat} {row : Nat} {S0 add : List Nat} (h : Mk n up row S0 add) : add.length ≤ n := by
 have := nodup_sub_len add (List.range n) h.nd (fun x hx => List.mem_range.mpr (h.lt x hx))
 rw [List.length_range] at this
 exact this
def C1P (up : Nat → Option Nat) (S0 add : List Nat) : Prop := ∀ x ∈ add, ∀ y, up x = some y → y ∈ S0 ∨ y ∈ add
theorem C1P.add {up : Nat → Option Nat} {S0 add : List Nat} (h : C1P up S0 add) {k x : Nat} (e : up k = some x) (hx : x ∈ S0 ∨ x ∈ add) : C1P up S0 (add ++ [k]) := by
 intro z hz y hy
 rcases List.mem_append.mp hz with hz | hz
 ·rcases h z hz y hy with h2 | h2
  ·exact Or.inl h2
  ·exact Or.inr (List.mem_append.mpr (Or.inl h2))
 ·have : z = k := by simpa using hz
  rw [this, e] at hy
  injection hy with hy
  rw [← hy]
  rcases hx with hx | hx
  ·exact Or.inl hx
  ·exact Or.inr (List.mem_append.mpr (Or.inl hx))
end Go.Proofs.Ytcggfjpnfodbaaa.M
end
section
/- Cylinders fill the surface. No conditions. -/
namespace Go.Proofs.Ytcggfjpnfodbaaa.M
set_option linter.unusedVariables false
set_option linter.unusedSimpArgs false
open Go.RowKit Go.Proofs.YtcggfjpnfodbaaaW.PrintWords Go.Proofs.YtcggfjpnfodbaaaW.PrintLast Go.Proofs.YtcggfjpnfodbaaaW.PrintMore Go.Proofs.Ytcggfjpnfodbaaa.A
theorem laws_has_ev (l : List Int) (a : Int) (hl : l.length ≤ 1000000000) : Ev (fun k => Z58.f k l a) (decide (a ∈ l)) := by
 have H : ∀ d i : Nat, i + d = l.length → Ev (fun k => Z58.l0 k a l (l.length : Int) (i : Int)) (decide (a ∈ l.drop i)) := by
  intro d
  induction d with
  | zero =>
   intro i h
   refine ev_succ ?_
   have h1 : ¬ ((i : Int) < (l.length : Int)) := by omega
   have e : decide (a ∈ l.drop i) = false := by
    rw [List.drop_of_length_le (by omega)]
    simp
   simp only [Z58.l0, h1, if_false]
   rw [e]
   exact Ev.now _
  | succ d ih =>
   intro i h
   refine ev_succ ?_
   have hi : i < l.length := by omega
   have h1 : (i : Int) < (l.length : Int) := by omega
   have h2 : (0 : Int) ≤ (i : Int) := by omega
   have h3 := w64s i (by omega)
   have e := List.drop_eq_getElem_cons hi
   rw [← rd_get l i hi] at e
   by_cases hr : rd l (i : Int) = a
   ·have e2 : decide (a ∈ l.drop i) = true := by rw [e, hr]; simp
    simp only [Z58.l0, h1, h2, hr, if_true]
    rw [e2]
    exact Ev.now _
   ·have e2 : decide (a ∈ l.drop i) = decide (a ∈ l.drop (i + 1)) := by
     rw [e]
     have : ¬ a = rd l (i : Int) := fun h => hr h.symm
     simp [this]
    simp only [Z58.l0, h1, h2, h3, hr, if_true, if_false]
    rw [e2]
    exact ih (i + 1) (by omega)
 have := H l.length 0 (by omega)
 simpa [Z58.f] using this
end Go.Proofs.Ytcggfjpnfodbaaa.M
end
section
/- The law of cusps and shears answers true. No conditions. -/
namespace Go.Proofs.Ytcggfjpnfodbaaa.Pure
set_option linter.unusedVariables false
set_option linter.unusedSimpArgs false
set_option linter.unusedVariables false
set_option linter.unusedSimpArgs false
open Go.RowKit Go.Proofs.YtcggfjpnfodbaaaW.PrintWords Go.Proofs.YtcggfjpnfodbaaaW.PrintLast Go.Proofs.YtcggfjpnfodbaaaW.PrintMore Go.Proofs.Ytcggfjpnfodbaaa.A Go.Proofs.Ytcggfjpnfodbaaa.M
theorem total_few (c : List Nat) (hl : c.length ≤ 1000) (hb : c.sum ≤ 1000000) : Ev (fun k => Z54.f k (I c)) ((c.sum : Nat) : Int) := by
 unfold Z54.f
 have H : ∀ d i x : Nat, i + d = c.length → x + (c.drop i).sum = c.sum → Ev (fun k => Z54.l0 k (x : Int) (I c) (c.length : Int) (i : Int)) ((c.sum : Nat) : Int) := by
  intro d
  induction d with
  | zero =>
   intro i x hi hx
   rw [List.drop_of_length_le (by omega)] at hx
   refine ev_succ ?_
   have c1 : ¬ ((i : Int) < (c.length : Int)) := by omega
   simp only [Z54.l0, c1, if_false]
   have e : x = c.sum := by simpa using hx
   rw [e]
   exact Ev.now _
  | succ d ih =>
   intro i x hi hx
   have hil : i < c.length := by omega
   rw [List.drop_eq_getElem_cons hil, List.sum_cons, ← g_get hil, ← Nat.add_assoc] at hx
   have key := ih (i + 1) (x + g c i) (by omega) hx
   refine ev_succ ?_
   have c1 : (i : Int) < (c.length : Int) := by omega
   have c2 : (0 : Int) ≤ (i : Int) := Int.natCast_nonneg i
   have c3 := w64s i (by omega)
   have c4 : wrap64 ((x : Int) + ((g c i : Nat) : Int)) = ((x + g c i : Nat) : Int) := by rw [w64 (by omega) (by omega)]; omega
   have c5 : (i : Int) < ((I c).length : Int) := by rw [I_len]; exact c1
   simp only [Z54.l0, c1, c2, c3, c4, c5, rdI, if_true]
   exact key
 have := H c.length 0 0 (by omega) (by simp)
 simp only [I_len]
 exact this
theorem FnCusps (b : List Int) (hb : b.length ≤ maxLen) (_ : ∀ x ∈ b, (Lit.int .u8 x).wf = true) : ∃ k, Z44.f k b = some true := by
 refine Ev.rounds ?_
 unfold Z44.f
 by_cases h : (b.length : Int) > 1048576
 ·simp only [h, if_true]
  exact Ev.now _
 ·simp only [h, if_false]
  obtain ⟨r, u, hs, h4, e1⟩ := few_ev b (by omega)
  refine Ev.bind e1 ?_
  have hct := canS_mem hs h4
  obtain ⟨o, ho⟩ := orbt_ok h4 hct
  have hr := orbR_few hs ho.eq
  have e3 := implIdx_ev (I r) (I u)
  rw [hr] at e3
  have e3' : Ev (fun k => Z43.f k (I r) (I u)) (o.L.length : Int) := e3
  clear e3
  obtain ⟨v, v1, v2, v3, e5⟩ := least_few hs h4
  obtain ⟨m, hp, hmv⟩ := per_ex (s := (r, u)) v1 v3
  have hdv := Per.dvd (s := (r, u)) hs hp v3
  have hm1 := hp.pos
  have e4 := period_ev (s := (r, u)) hs hp (by omega)
  have e6 := restore_ev (s := (r, u)) hs hp (by omega)
  obtain ⟨l, l1, l2, l3, e2⟩ := cusps_few hs h4 ho hp
  have hle := ho.le
  have e7 := total_few l (by omega) (by omega)
  rw [l1] at e7
  have e8 := laws_has_ev (I l) (m : Int) (by rw [I_len]; omega)
  have hmem : (m : Int) ∈ I l := mem_I.mpr l2
  rw [decide_eq_true hmem] at e8
  have hll : 0 < l.length := List.length_pos_of_mem l2
  refine Ev.bind e2 (Ev.bind e4 (Ev.bind e5 ?_))
  simp only [if_true]
  refine Ev.bind e7 (Ev.bind e3' ?_)
  have q1 : ¬ (((I l).length : Int) = 0) := by rw [I_len]; omega
  have q2 : ¬ ((m : Int) < 1) := by omega
  have q3 : ¬ ((m : Int) > 120) := by omega
  have q4 : ¬ ((v : Int) < 1) := by omega
  have q5 : ¬ ((m : Int) = 0) := by omega
  have q6 : Int.tmod (v : Int) (m : Int) = 0 := by
   rw [Int.tmod_eq_emod_of_nonneg (by omega)]
   have : ((v : Int) % (m : Int)) = ((v % m : Nat) : Int) := rfl
   rw [this, hdv]
   rfl
  simp only [q1, q2, q3, q4, q5, q6, if_true, if_false]
  refine Ev.bind e8 ?_
  simp only [Bool.not_true]
  refine ev_succ ?_
  simp only [Z44.j0, Bool.false_eq_true, if_false]
  exact e6
end Go.Proofs.Ytcggfjpnfodbaaa.Pure
end
