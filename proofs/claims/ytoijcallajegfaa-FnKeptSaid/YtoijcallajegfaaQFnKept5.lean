/- Lemmas for the row FnKept: the program's functions told as plain functions, and plain mathematics. No conditions. -/
import Derived.Test.YtoijcallajegfaaQFnKept4
section
/- Plain mathematics: classes of what is linked. No conditions. -/
namespace Go.Proofs.Ytoijcallajegfaa.M
set_option linter.unusedVariables false
set_option linter.unusedSimpArgs false
inductive Cn (up : Nat → Option Nat) : Nat → Nat → Prop
 | refl (i : Nat) : Cn up i i
 | up {i j k : Nat} : up i = some j → Cn up j k → Cn up i k
 | dn {i j k : Nat} : up j = some i → Cn up j k → Cn up i k
theorem Cn.trans {up : Nat → Option Nat} {i j k : Nat} (h : Cn up i j) (h' : Cn up j k) : Cn up i k := by
 induction h with
 | refl i => exact h'
 | up e _ ih => exact .up e (ih h')
 | dn e _ ih => exact .dn e (ih h')
theorem Cn.symm {up : Nat → Option Nat} {i j : Nat} (h : Cn up i j) : Cn up j i := by
 induction h with
 | refl i => exact .refl i
 | up e _ ih => exact ih.trans (.dn e (.refl _))
 | dn e _ ih => exact ih.trans (.up e (.refl _))
theorem Cn.one {up : Nat → Option Nat} {i j : Nat} (h : up i = some j) : Cn up i j := .up h (.refl _)
theorem Cn.lt {n : Nat} {up : Nat → Option Nat} (hup : ∀ i j, up i = some j → i < n ∧ j < n) {i j : Nat} (h : Cn up i j) (hi : i < n) : j < n := by
 induction h with
 | refl i => exact hi
 | up e _ ih => exact ih (hup _ _ e).2
 | dn e _ ih => exact ih (hup _ _ e).1
theorem Cn.closed {up : Nat → Option Nat} {S : Nat → Prop} (hS : ∀ i j, up i = some j → (S i ↔ S j)) {i j : Nat} (h : Cn up i j) : S i ↔ S j := by
 induction h with
 | refl i => exact Iff.rfl
 | up e _ ih => exact (hS _ _ e).trans ih
 | dn e _ ih => exact (hS _ _ e).symm.trans ih
structure Grp (n : Nat) (up : Nat → Option Nat) (t : Nat) (G : Nat → Nat) : Prop where
 le : ∀ j, j < n → G j ≤ j
 fix : ∀ j, j < n → G (G j) = G j
 cn : ∀ j, j < n → Cn up j (G j)
 ed : ∀ i j, i < t → up i = some j → G i = G j
def mgf (G : Nat → Nat) (a b : Nat) : Nat → Nat := fun j => if G j = a ∨ G j = b then min a b else G j
theorem Grp.start (n : Nat) (up : Nat → Option Nat) : Grp n up 0 (fun j => j) := ⟨fun j _ => Nat.le_refl _, fun j _ => rfl, fun j _ => .refl _, fun i j h _ => by omega⟩
theorem Grp.skip {n t : Nat} {up : Nat → Option Nat} {G : Nat → Nat} (h : Grp n up t G) (e : up t = none) : Grp n up (t + 1) G :=
 ⟨h.le, h.fix, h.cn, fun i j hi hj => by
  by_cases e2 : i = t
  ·subst e2
   rw [e] at hj
   cases hj
  ·exact h.ed i j (by omega) hj⟩
theorem Grp.merge {n t k : Nat} {up : Nat → Option Nat} (hup : ∀ i j, up i = some j → i < n ∧ j < n) {G : Nat → Nat} (h : Grp n up t G) (e : up t = some k) : Grp n up (t + 1) (mgf G (G t) (G k)) := by
 obtain ⟨ht, hk⟩ := hup t k e
 have ha := h.fix t ht
 have hb := h.fix k hk
 have la := h.le t ht
 have lb := h.le k hk
 have hab : Cn up (G t) (G k) := (h.cn t ht).symm.trans ((Cn.one e).trans (h.cn k hk))
 have hm : min (G t) (G k) = G t ∨ min (G t) (G k) = G k := by omega
 refine ⟨fun j hj => ?_, fun j hj => ?_, fun j hj => ?_, fun i j hi hj => ?_⟩
 ·unfold mgf
  have := h.le j hj
  split <;> omega
 ·have key : ∀ c, (c = G t ∨ c = G k) → mgf G (G t) (G k) c = min (G t) (G k) := by
   intro c hc
   unfold mgf
   rw [if_pos (by rcases hc with rfl | rfl; exact .inl ha; exact .inr hb)]
  by_cases hc : G j = G t ∨ G j = G k
  ·have e1 : mgf G (G t) (G k) j = min (G t) (G k) := by unfold mgf; rw [if_pos hc]
   rw [e1]
   exact key _ hm
  ·have e1 : mgf G (G t) (G k) j = G j := by unfold mgf; rw [if_neg hc]
   rw [e1]
   unfold mgf
   rw [h.fix j hj, if_neg hc]
 ·unfold mgf
  split
  ·rename_i hc
   refine (h.cn j hj).trans ?_
   rcases hc with hc | hc <;> rcases hm with hm | hm <;> rw [hc, hm]
   ·exact .refl _
   ·exact hab
   ·exact hab.symm
   ·exact .refl _
  ·exact h.cn j hj
 ·by_cases e2 : i = t
  ·subst e2
   rw [e] at hj
   injection hj with hj
   subst hj
   unfold mgf
   simp
  ·unfold mgf
   rw [h.ed i j (by omega) hj]
theorem Grp.iff {n : Nat} {up : Nat → Option Nat} (hup : ∀ i j, up i = some j → i < n ∧ j < n) {G : Nat → Nat} (h : Grp n up n G) {i j : Nat} (hi : i < n) (hj : j < n) : G i = G j ↔ Cn up i j := by
 constructor
 ·intro e
  have := (h.cn i hi).trans ((by rw [e]; exact .refl _ : Cn up (G i) (G j)).trans (h.cn j hj).symm)
  exact this
 ·intro hc
  induction hc with
  | refl i => rfl
  | up e _ ih => rw [h.ed _ _ (hup _ _ e).1 e]; exact ih (hup _ _ e).2 hj
  | dn e _ ih => rw [← h.ed _ _ (hup _ _ e).1 e]; exact ih (hup _ _ e).1 hj
theorem Grp.head {n : Nat} {up : Nat → Option Nat} (hup : ∀ i j, up i = some j → i < n ∧ j < n) {G : Nat → Nat} (h : Grp n up n G) {i : Nat} (hi : i < n) : G i = i ↔ ∀ j, Cn up i j → i ≤ j := by
 constructor
 ·intro e j hc
  have hj := hc.lt hup hi
  have := (h.iff hup hi hj).mpr hc
  have := h.le j hj
  omega
 ·intro hc
  have := hc _ (h.cn i hi)
  have := h.le i hi
  omega
def ups (up : Nat → Option Nat) : Nat → Nat → Option Nat
 | 0, i => some i
 | m + 1, i => (up i).bind (ups up m)
theorem ups_succ (up : Nat → Option Nat) (m i : Nat) : ups up (m + 1) i = (ups up m i).bind up := by
 induction m generalizing i with
 | zero =>
  simp only [ups, Option.bind_some]
  cases h : up i <;> rfl
 | succ m ih =>
  show (up i).bind (ups up (m + 1)) = ((up i).bind (ups up m)).bind up
  cases h : up i with
  | none => rfl
  | some j => exact ih j
theorem ups_cn {up : Nat → Option Nat} {m i j : Nat} (h : ups up m i = some j) : Cn up i j := by
 induction m generalizing i with
 | zero => simp [ups] at h; subst h; exact .refl _
 | succ m ih =>
  obtain ⟨z, hz, h2⟩ := Option.bind_eq_some_iff.mp h
  exact .up hz (ih h2)
theorem nodup_sub_len : ∀ (a b : List Nat), a.Nodup → (∀ x ∈ a, x ∈ b) → a.length ≤ b.length := by
 intro a
 induction a with
 | nil => intro b _ _; simp
 | cons x a ih =>
  intro b hn hs
  have hx := List.nodup_cons.mp hn
  have h1 := ih (b.erase x) hx.2 (fun y hy => by
   have hyx : y ≠ x := fun e => hx.1 (e ▸ hy)
   exact (List.mem_erase_of_ne hyx).mpr (hs y (by simp [hy])))
  have h2 := List.length_erase_of_mem (hs x (by simp))
  have h3 : 0 < b.length := List.length_pos_of_mem (hs x (by simp))
  simp only [List.length_cons]
  omega
theorem nodup_len_eq {a b : List Nat} (ha : a.Nodup) (hb : b.Nodup) (h : ∀ x, x ∈ a ↔ x ∈ b) : a.length = b.length :=
 Nat.le_antisymm (nodup_sub_len a b ha (fun x hx => (h x).mp hx)) (nodup_sub_len b a hb (fun x hx => (h x).mpr hx))
structure Mk (n : Nat) (up : Nat → Option Nat) (row : Nat) (S0 add : List Nat) : Prop where
 nd : add.Nodup
 lt : ∀ x ∈ add, x < n
 new : ∀ x ∈ add, x ∉ S0
 p : ∀ x ∈ add, (∃ m, ups up m row = some x) ∨ (∃ m, ups up m x = some row)
theorem Mk.cn {n : Nat} {up : Nat → Option Nat} {row : Nat} {S0 add : List Nat} (h : Mk n up row S0 add) {x : Nat} (hx : x ∈ add) : Cn up row x := by
 rcases h.p x hx with ⟨m, hm⟩ | ⟨m, hm⟩
 ·exact ups_cn hm
 ·exact (ups_cn hm).symm
theorem Mk.add {n : Nat} {up : Nat → Option Nat} {row : Nat} {S0 add : List Nat} (h : Mk n up row S0 add) {x : Nat} (hx : x < n) (h1 : x ∉ S0) (h2 : x ∉ add) (hp : (∃ m, ups up m row = some x) ∨ (∃ m, ups up m x = some row)) : Mk n up row S0 (add ++ [x]) := by
 refine ⟨List.nodup_append.mpr ⟨h.nd, by simp, fun a ha b hb e => ?_⟩, fun y hy => ?_, fun y hy => ?_, fun y hy => ?_⟩
 ·have : b = x := by simpa using hb
  exact h2 (by rw [← this, ← e]; exact ha)
 ·rcases List.mem_append.mp hy with hy | hy
  ·exact h.lt y hy
  ·have : y = x := by simpa using hy
   omega
 ·rcases List.mem_append.mp hy with hy | hy
  ·exact h.new y hy
  ·have : y = x := by simpa using hy
   rw [this]
   exact h1
 ·rcases List.mem_append.mp hy with hy | hy
  ·exact h.p y hy
  ·have : y = x := by simpa using hy
   rw [this]
   exact hp
theorem Mk.full {n : Nat} {up : Nat → Option Nat} (hup : ∀ i j, up i = some j → i < n ∧ j < n) (hinj : ∀ i i' j, up i = some j → up i' = some j → i = i') {row : Nat} {S0 add : List Nat} (h : Mk n up row S0 add) (hrow : row ∈ add)
  (hS0 : ∀ i j, up i = some j → (i ∈ S0 ↔ j ∈ S0)) (c1 : ∀ x ∈ add, ∀ y, up x = some y → y ∈ S0 ∨ y ∈ add)
  (c2 : ∀ k x, up k = some x → (x ∈ S0 ∨ x ∈ add) → (∃ m, ups up m k = some row) → (k ∈ S0 ∨ k ∈ add)) : ∀ x, x ∈ add ↔ Cn up row x := by
 have hrs : row ∉ S0 := h.new row hrow
 have chain : ∀ m x, ups up m row = some x → x ∈ add := by
  intro m
  induction m with
  | zero => intro x hx; simp [ups] at hx; rw [← hx]; exact hrow
  | succ m ih =>
   intro x hx
   rw [ups_succ] at hx
   obtain ⟨z, hz, hzx⟩ := Option.bind_eq_some_iff.mp hx
   have hza := ih z hz
   rcases c1 z hza x hzx with k | k
   ·exact absurd ((hS0 z x hzx).mpr k) (h.new z hza)
   ·exact k
 have closed : ∀ i j, up i = some j → ((i ∈ S0 ∨ i ∈ add) ↔ (j ∈ S0 ∨ j ∈ add)) := by
  intro i j e
  constructor
  ·rintro (k | k)
   ·exact .inl ((hS0 i j e).mp k)
   ·exact c1 i k j e
  ·rintro (k | k)
   ·exact .inl ((hS0 i j e).mpr k)
   ·rcases h.p j k with ⟨m, hm⟩ | ⟨m, hm⟩
    ·cases m with
     | zero =>
      simp [ups] at hm
      subst hm
      exact c2 i _ e (.inr k) ⟨1, by simp [ups, e]⟩
     | succ m =>
      rw [ups_succ] at hm
      obtain ⟨z, hz, hzj⟩ := Option.bind_eq_some_iff.mp hm
      have := hinj i z j e hzj
      subst this
      exact .inr (chain m _ hz)
    ·exact c2 i j e (.inr k) ⟨m + 1, by simp [ups, e, hm]⟩
 intro x
 constructor
 ·exact fun hx => h.cn hx
 ·intro hc
  have h1 := (Cn.closed (S := fun z => z ∈ S0 ∨ z ∈ add) closed hc).mp (.inr hrow)
  rcases h1 with h1 | h1
  ·exact absurd ((Cn.closed (S := fun z => z ∈ S0) hS0 hc).mpr h1) hrs
  ·exact h1
end Go.Proofs.Ytoijcallajegfaa.M
end
section
/- Conjugates have cycles of the same lengths. No conditions. -/
namespace Go.Proofs.Ytoijcallajegfaa.M
set_option linter.unusedVariables false
set_option linter.unusedSimpArgs false
open Go.RowKit Go.Proofs.YtoijcallajegfaaW.PrintWords Go.Proofs.YtoijcallajegfaaW.PrintLast Go.Proofs.YtoijcallajegfaaW.PrintMore Go.Proofs.Ytoijcallajegfaa.A
theorem filt_flat_sub {C : List (List Nat)} (P : List Nat → Bool) (h : C.flatten.Nodup) : (C.filter P).flatten.Nodup := by
 induction C with
 | nil => simp
 | cons c C ih =>
  rw [List.flatten_cons, List.nodup_append] at h
  rw [List.filter_cons]
  split
  ·rw [List.flatten_cons, List.nodup_append]
   refine ⟨h.1, ih h.2.1, fun a ha b hb => h.2.2 a ha b ?_⟩
   obtain ⟨d, hd, hbd⟩ := mem_flat.mp hb
   exact mem_flat.mpr ⟨d, (List.mem_filter.mp hd).1, hbd⟩
  ·exact ih h.2.1
theorem perN_count {p : List Nat} (hp : IsP p) (m : Nat) : (perN p m).length = m * ((cycles p).map List.length).count m := by
 rw [count_map_len, ← flat_filter_len]
 obtain ⟨k1, k2⟩ := cyc_flat_lt hp p.length (Nat.le_refl _)
 refine nodup_len_eq (List.nodup_range.filter _) (filt_flat_sub _ k2) (fun x => ?_)
 unfold perN
 rw [List.mem_filter, List.mem_range, mem_flat]
 constructor
 ·rintro ⟨hx, hm⟩
  obtain ⟨c, hc, hxc⟩ := cyc_all hp p.length (Nat.le_refl _) x hx
  obtain ⟨s, t, hs, _, eo, _⟩ := cycle_form hp hc
  refine ⟨c, List.mem_filter.mpr ⟨hc, ?_⟩, hxc⟩
  have := per_orb hp hs (x := x) (by rw [← eo]; exact hxc)
  rw [eo, orb_length, ← this]
  simpa using hm
 ·rintro ⟨c, hc, hxc⟩
  obtain ⟨hc, hm⟩ := List.mem_filter.mp hc
  obtain ⟨s, t, hs, _, eo, _⟩ := cycle_form hp hc
  have hxo : x ∈ orb p s := by rw [← eo]; exact hxc
  refine ⟨orb_lt hp hs hxo, ?_⟩
  have := per_orb hp hs hxo
  rw [this, ← orb_length, ← eo]
  simpa using hm
theorem count_zero {p : List Nat} (hp : IsP p) : ((cycles p).map List.length).count 0 = 0 := by
 refine List.count_eq_zero.mpr (fun h => ?_)
 obtain ⟨c, hc, e⟩ := List.mem_map.mp h
 obtain ⟨s, t, _, ec, _⟩ := cycle_form hp hc
 rw [ec] at e
 simp at e
theorem map_nodup {l : List Nat} {h : Nat → Nat} (hl : l.Nodup) (hi : ∀ x ∈ l, ∀ y ∈ l, h x = h y → x = y) : (l.map h).Nodup := by
 induction l with
 | nil => simp
 | cons a l ih =>
  obtain ⟨h1, h2⟩ := List.nodup_cons.mp hl
  rw [List.map_cons, List.nodup_cons]
  refine ⟨fun hm => ?_, ih h2 (fun x hx y hy => hi x (by simp [hx]) y (by simp [hy]))⟩
  obtain ⟨y, hy, e⟩ := List.mem_map.mp hm
  exact h1 (hi y (by simp [hy]) a (by simp) e ▸ hy)
theorem lens_eq {p q : List Nat} (hp : IsP p) (hq : IsP q) (hl : p.length = q.length) (h : Nat → Nat) (h1 : ∀ x, x < p.length → h x < q.length) (h2 : ∀ x y, x < p.length → y < p.length → h x = h y → x = y) (h3 : ∀ x, x < p.length → per q (h x) = per p x) :
  sortD ((cycles p).map List.length) = sortD ((cycles q).map List.length) := by
 have le : ∀ m, (perN p m).length ≤ (perN q m).length := by
  intro m
  have hn : ((perN p m).map h).Nodup := map_nodup (List.nodup_range.filter _) (fun x hx y hy e => h2 x y (List.mem_range.mp (List.mem_filter.mp hx).1) (List.mem_range.mp (List.mem_filter.mp hy).1) e)
  have := nodup_sub_len5 _ (perN q m) hn (fun x hx => by
   obtain ⟨y, hy, rfl⟩ := List.mem_map.mp hx
   obtain ⟨y1, y2⟩ := List.mem_filter.mp hy
   have y1 := List.mem_range.mp y1
   refine List.mem_filter.mpr ⟨List.mem_range.mpr (h1 y y1), ?_⟩
   rw [h3 y y1]
   exact y2)
  rwa [List.length_map] at this
 have tot : ∀ (p : List Nat), IsP p → sm (fun m => (perN p m).length) (p.length + 1) = p.length := by
  intro p hp
  have H : ∀ k, k ≤ p.length → sm (fun m => ((List.range k).filter (fun x => decide (per p x = m))).length) (p.length + 1) = k := by
   intro k
   induction k with
   | zero =>
    intro _
    have : ∀ i, i < p.length + 1 → ((List.range 0).filter (fun x => decide (per p x = i))).length = 0 := fun i _ => rfl
    rw [sm_congr this, sm_zero]
   | succ k ih =>
    intro hk
    have e : ∀ i, i < p.length + 1 → ((List.range (k + 1)).filter (fun x => decide (per p x = i))).length = ((List.range k).filter (fun x => decide (per p x = i))).length + (if per p k = i then 1 else 0) := by
     intro i _
     rw [List.range_succ, List.filter_append, List.length_append]
     by_cases h : per p k = i <;> simp [h]
    have hlt : per p k < p.length + 1 := by have := (per_spec hp (s := k) (by omega)).2.1; omega
    rw [sm_congr e, sm_add, ih (by omega), sm_single, if_pos hlt]
  exact H p.length (Nat.le_refl _)
 have eqs : ∀ m, m < p.length + 1 → (perN p m).length = (perN q m).length := by
  have t1 := tot p hp
  have t2 := tot q hq
  rw [← hl] at t2
  have H : ∀ n, sm (fun m => (perN p m).length) n ≤ sm (fun m => (perN q m).length) n := by
   intro n
   induction n with
   | zero => exact Nat.le_refl _
   | succ n ih => rw [sm, sm]; have := le n; omega
  have K : ∀ n, sm (fun m => (perN p m).length) n = sm (fun m => (perN q m).length) n → ∀ m, m < n → (perN p m).length = (perN q m).length := by
   intro n
   induction n with
   | zero => intro _ m hm; omega
   | succ n ih =>
    intro e m hm
    rw [sm, sm] at e
    have a := le n
    have b := H n
    by_cases hmn : m = n
    ·subst hmn; omega
    ·exact ih (by omega) m (by omega)
  exact K _ (t1.trans t2.symm)
 refine sortD_eq (fun m => ?_)
 by_cases m0 : m = 0
 ·subst m0
  rw [count_zero hp, count_zero hq]
 ·by_cases hm : m < p.length + 1
  ·have := eqs m hm
   rw [perN_count hp, perN_count hq] at this
   exact Nat.eq_of_mul_eq_mul_left (by omega) this
  ·have z : ∀ r : List Nat, IsP r → r.length = p.length → ((cycles r).map List.length).count m = 0 := by
    intro r hr hl
    refine List.count_eq_zero.mpr (fun h => ?_)
    obtain ⟨c, hc, e⟩ := List.mem_map.mp h
    obtain ⟨s, t, hs, _, eo, _⟩ := cycle_form hr hc
    rw [eo, orb_length] at e
    have := (per_spec hr hs).2.1
    omega
   rw [z p hp rfl, z q hq hl.symm]
end Go.Proofs.Ytoijcallajegfaa.M
end
section
/- Half turns: the tests of the program and of the reference come to one plain test. No conditions. -/
namespace Go.Proofs.Ytoijcallajegfaa.M
set_option linter.unusedVariables false
set_option linter.unusedSimpArgs false
open Go.RowKit Go.Proofs.YtoijcallajegfaaW.PrintWords Go.Proofs.YtoijcallajegfaaW.PrintLast Go.Proofs.YtoijcallajegfaaW.PrintMore Go.Proofs.Ytoijcallajegfaa.A
def Turn (r u a : List Nat) : Prop := ∀ i, i < a.length → g a (g r i) = ix r (g a i) ∧ g a (g u i) = ix u (g a i)
instance (r u a : List Nat) : Decidable (Turn r u a) := by unfold Turn; infer_instance
def turnB (r u a : List Int) : Bool := surfB r u && permB a && decide (a.length = r.length) && decide (Turn (N r) (N u) (N a))
theorem turnB_mk {r u a : List Nat} (hs : Sf r u) (ha : IsP a) (hl : a.length = r.length) : turnB (I r) (I u) (I a) = decide (Turn r u a) := by
 unfold turnB
 rw [surfB_I.mpr hs, permB_I.mpr ⟨ha, by have := hs.le; omega⟩, I_len, I_len, N_I, N_I, N_I]
 simp [hl]
theorem turn_nat {r u a : List Int} (h : turnB r u a = true) : ∃ r' u' a', r = I r' ∧ u = I u' ∧ a = I a' ∧ Sf r' u' ∧ IsP a' ∧ a'.length = r'.length ∧ Turn r' u' a' := by
 unfold turnB at h
 simp only [Bool.and_eq_true, decide_eq_true_eq] at h
 obtain ⟨⟨⟨h1, h2⟩, h3⟩, h4⟩ := h
 obtain ⟨r', u', rfl, rfl, hs⟩ := surf_nat h1
 obtain ⟨a', rfl, a1, a2⟩ := PI_nat (of_decide_eq_true h2)
 rw [N_I, N_I, N_I] at h4
 rw [I_len, I_len] at h3
 exact ⟨r', u', a', rfl, rfl, rfl, hs, a1, h3, h4⟩
def TurnFrom (r u a : List Nat) (i : Nat) : Prop := ∀ j, i ≤ j → j < a.length → g a (g r j) = ix r (g a j) ∧ g a (g u j) = ix u (g a j)
theorem turnFrom_step {r u a : List Nat} {i : Nat} (h : g a (g r i) = ix r (g a i) ∧ g a (g u i) = ix u (g a i)) : TurnFrom r u a i ↔ TurnFrom r u a (i + 1) := by
 constructor
 ·intro k j h1 h2
  exact k j (by omega) h2
 ·intro k j h1 h2
  by_cases e : j = i
  ·subst e
   exact h
  ·exact k j (by omega) h2
theorem turn_dec {r u a : List Nat} {b : Bool} (h : b = true ↔ TurnFrom r u a 0) : b = decide (Turn r u a) := by
 rw [Bool.eq_iff_iff, h, decide_eq_true_iff]
 constructor
 ·intro k i hi
  exact k i (Nat.zero_le _) hi
 ·intro k i _ hi
  exact k i hi
theorem cast_eq (a b : Nat) : (((a : Nat) : Int) = ((b : Nat) : Int)) = (a = b) := by
 apply propext
 omega
theorem turn_j0 (a r u : List Int) : Ev (fun k => Z55.j0 k a true r u) false := by
 refine ev_succ ?_
 simp only [Z55.j0, if_true]
 exact Ev.now _
theorem impl_turn (r u a : List Int) : Ev (fun k => Z55.f k r u a) (turnB r u a) := by
 unfold Z55.f
 refine Ev.bind (impl_surf r u) ?_
 by_cases h1 : surfB r u = true
 ·simp only [h1, if_true]
  refine Ev.bind (impl_permOk a) ?_
  by_cases h2 : permB a = true
  ·simp only [h2, if_true]
   by_cases h3 : (a.length : Int) = (r.length : Int)
   ·obtain ⟨r, u, rfl, rfl, hs⟩ := surf_nat h1
    obtain ⟨a, rfl, a1, a2⟩ := PI_nat (of_decide_eq_true h2)
    rw [I_len, I_len] at h3
    have h3' : a.length = r.length := by omega
    rw [turnB_mk hs a1 h3']
    have hle := hs.le
    have heq := hs.eq
    have h3b : ((a.length : Int) != (r.length : Int)) = false := by simp [h3]
    refine ev_succ ?_
    simp only [Z55.j0, I_len', h3b, Bool.false_eq_true, if_false]
    refine Ev.bind (impl_inv hs.pr hs.le) (Ev.bind (impl_inv hs.pu (by omega)) ?_)
    have H : ∀ d i : Nat, i + d = a.length → ∃ b, Ev (fun k => Z55.l0 k (I a) (I (inv r)) (I (inv u)) (a.length : Int) (i : Int) (I r) (I u)) b ∧ (b = true ↔ TurnFrom r u a i) := by
     intro d
     induction d with
     | zero =>
      intro i h
      refine ⟨true, ev_succ ?_, by simp; intro j h1 h2; omega⟩
      have h1 : ¬ ((i : Int) < (a.length : Int)) := by omega
      simp only [Z55.l0, h1, if_false]
      exact Ev.now _
     | succ d ih =>
      intro i h
      have hi : i < a.length := by omega
      have gr := g_lt hs.pr (i := i) (by omega)
      have gu := g_lt hs.pu (i := i) (by omega)
      have ga := g_lt a1 hi
      have c1 : (i : Int) < (a.length : Int) := by omega
      have c2 : (0 : Int) ≤ (i : Int) := by omega
      have c3 : (i : Int) < (r.length : Int) := by omega
      have c4 : (0 : Int) ≤ ((g r i : Nat) : Int) := by omega
      have c5 : ((g r i : Nat) : Int) < (a.length : Int) := by omega
      have c6 : (0 : Int) ≤ ((g a i : Nat) : Int) := by omega
      have c7 : ((g a i : Nat) : Int) < ((inv r).length : Int) := by rw [inv_len]; omega
      have c8 : (i : Int) < (u.length : Int) := by omega
      have c9 : (0 : Int) ≤ ((g u i : Nat) : Int) := by omega
      have c10 : ((g u i : Nat) : Int) < (a.length : Int) := by omega
      have c11 : ((g a i : Nat) : Int) < ((inv u).length : Int) := by rw [inv_len]; omega
      have e1 : g (inv r) (g a i) = ix r (g a i) := g_inv (by omega)
      have e2 : g (inv u) (g a i) = ix u (g a i) := g_inv (by omega)
      have h4 := w64s i (by omega)
      by_cases t1 : g a (g r i) = ix r (g a i)
      ·by_cases t2 : g a (g u i) = ix u (g a i)
       ·obtain ⟨b, i1, i2⟩ := ih (i + 1) (by omega)
        refine ⟨b, ev_succ ?_, by rw [i2]; exact (turnFrom_step ⟨t1, t2⟩).symm⟩
        simp only [Z55.l0, c1, c2, c3, c4, c5, c6, c7, c8, c9, c10, c11, h4, rdI, I_len', e1, e2, cast_eq, t1, t2, if_true]
        exact i1
       ·refine ⟨false, ev_succ ?_, by simp only [Bool.false_eq_true, false_iff]; intro k; exact t2 (k i (Nat.le_refl _) hi).2⟩
        simp only [Z55.l0, c1, c2, c3, c4, c5, c6, c7, c8, c9, c10, c11, rdI, I_len', e1, e2, cast_eq, t1, t2, if_true, if_false]
        exact Ev.now _
      ·refine ⟨false, ev_succ ?_, by simp only [Bool.false_eq_true, false_iff]; intro k; exact t1 (k i (Nat.le_refl _) hi).1⟩
       simp only [Z55.l0, c1, c2, c3, c4, c5, c6, c7, rdI, I_len', e1, cast_eq, t1, if_true, if_false]
       exact Ev.now _
    obtain ⟨b, i1, i2⟩ := H a.length 0 (by omega)
    rw [← turn_dec i2]
    exact i1
   ·have h3b : ((a.length : Int) != (r.length : Int)) = true := by simp; omega
    simp only [h3b]
    have : turnB r u a = false := by
     unfold turnB
     have : ¬ a.length = r.length := by omega
     simp [this]
    rw [this]
    exact turn_j0 a r u
  ·have h2' := Bool.eq_false_iff.mpr h2
   simp only [h2', Bool.false_eq_true, if_false]
   have : turnB r u a = false := by unfold turnB; simp [h2']
   rw [this]
   exact turn_j0 a r u
 ·have h1' := Bool.eq_false_iff.mpr h1
  simp only [h1', Bool.false_eq_true, if_false]
  have : turnB r u a = false := by unfold turnB; simp [h1']
  rw [this]
  exact turn_j0 a r u
end Go.Proofs.Ytoijcallajegfaa.M
end
section
/- Half turns as the program makes them. No conditions. -/
namespace Go.Proofs.Ytoijcallajegfaa.M
set_option linter.unusedVariables false
set_option linter.unusedSimpArgs false
open Go.RowKit Go.Proofs.YtoijcallajegfaaW.PrintWords Go.Proofs.YtoijcallajegfaaW.PrintLast Go.Proofs.YtoijcallajegfaaW.PrintMore Go.Proofs.Ytoijcallajegfaa.A
structure TurnP (r u b : List Nat) : Prop where
 len : b.length = r.length
 p : IsP b
 t : Turn r u b
theorem ix_inj {p : List Nat} (hp : IsP p) {x y : Nat} (hx : x < p.length) (hy : y < p.length) (h : ix p x = ix p y) : x = y := by
 rw [← g_ix hp hx, ← g_ix hp hy, h]
def partL (n : Nat) (out : List Nat) (f : Nat → Nat) : List Int := (List.range n).map (fun x => if x ∈ out then ((f x : Nat) : Int) else -1)
theorem partL_len (n : Nat) (out : List Nat) (f : Nat → Nat) : (partL n out f).length = n := by simp [partL]
theorem rd_partL {n : Nat} {out : List Nat} {f : Nat → Nat} {x : Nat} (h : x < n) : rd (partL n out f) (x : Int) = if x ∈ out then ((f x : Nat) : Int) else -1 := by
 rw [rd_get _ _ (by rw [partL_len]; exact h)]
 simp [partL]
theorem partL_set {n : Nat} {out : List Nat} {f : Nat → Nat} {x y : Nat} (h : x < n) : (partL n out f).set x ((y : Nat) : Int) = partL n (out ++ [x]) (fun z => if z = x then y else f z) := by
 refine ext_rd (by rw [List.length_set, partL_len, partL_len]) (fun i hi => ?_)
 rw [List.length_set, partL_len] at hi
 rw [rd_set (by rw [partL_len]; exact h), rd_partL hi, rd_partL hi]
 by_cases e : x = i
 ·subst e
  simp
 ·have e' : ¬ i = x := fun h => e h.symm
  simp [e, e']
theorem partL_full {n : Nat} {out : List Nat} {f : Nat → Nat} (h : ∀ x, x < n → x ∈ out) : partL n out f = I (tab n f) := by
 refine ext_rd (by rw [partL_len, I_len, tab_len]) (fun i hi => ?_)
 rw [partL_len] at hi
 rw [rd_partL hi, rdI, g_tab hi, if_pos (h i hi)]
structure FI (r u : List Nat) (im : Nat) (out : List Nat) (f : Nat → Nat) : Prop where
 lt : ∀ x ∈ out, f x < r.length
 z : f 0 = im
 z0 : 0 ∈ out
 t : ∀ b, TurnP r u b → g b 0 = im → ∀ x ∈ out, f x = g b x
theorem FI.add {r u : List Nat} {im : Nat} {out : List Nat} {f : Nat → Nat} (h : FI r u im out f) {y v : Nat} (hy : y ∉ out) (hv : v < r.length) (ht : ∀ b, TurnP r u b → g b 0 = im → v = g b y) : FI r u im (out ++ [y]) (fun z => if z = y then v else f z) := by
 have h0 : (0 : Nat) ≠ y := fun e => hy (e ▸ h.z0)
 refine ⟨fun x hx => ?_, by simp [h0, h.z], by simp [h.z0], fun b hb hb0 x hx => ?_⟩
 ·by_cases e : x = y
  ·simp [e, hv]
  ·rcases List.mem_append.mp hx with hx | hx
   ·simp [e, h.lt x hx]
   ·exact absurd (by simpa using hx) e
 ·by_cases e : x = y
  ·subst e
   simp [ht b hb hb0]
  ·rcases List.mem_append.mp hx with hx | hx
   ·simp [e, h.t b hb hb0 x hx]
   ·exact absurd (by simpa using hx) e
theorem turnTo_one {r u : List Nat} (hs : Sf r u) {im : Nat} {out : List Nat} {f : Nat → Nat} (hr : RInv r.length out) (hf : FI r u im out f) {y v : Nat} (hy : y < r.length) (hv : v < r.length) (ht : ∀ b, TurnP r u b → g b 0 = im → v = g b y) (a j : Nat) (hj : j < 2) (ps : List S118) (hp : rd_T118 ps (j : Int) = ⟨(y : Int), (v : Int)⟩) (hps : ps.length = 2) (R : List Int → Prop)
  (H : ∀ f', FI r u im (st1 out y) f' → ∃ q, R q ∧ Ev (fun k => Z58.l2 k (I (inv r)) (I (inv u)) (partL r.length (st1 out y) f') (I (st1 out y)) (a : Int) ps 2 ((j + 1 : Nat) : Int) (I r) (I u)) q) :
  ∃ q, R q ∧ Ev (fun k => Z58.l2 k (I (inv r)) (I (inv u)) (partL r.length out f) (I out) (a : Int) ps 2 (j : Int) (I r) (I u)) q := by
 have c1 : (j : Int) < 2 := by omega
 have c2 : (0 : Int) ≤ (j : Int) := by omega
 have c3 : (j : Int) < (ps.length : Int) := by omega
 have c4 : (0 : Int) ≤ (y : Int) := by omega
 have c5 : (y : Int) < ((partL r.length out f).length : Int) := by rw [partL_len]; omega
 have c6 := w64s j (by omega)
 have c7 := rd_partL (n := r.length) (out := out) (f := f) hy
 have hle := hs.le
 have c8 : (I out).length < 17592186044416 := by rw [I_len]; have := hr.le; omega
 by_cases hm : y ∈ out
 ·have e : st1 out y = out := by unfold st1; rw [if_pos hm]
  obtain ⟨q, q1, q2⟩ := H f (by rw [e]; exact hf)
  rw [e] at q2
  refine ⟨q, q1, ev_succ ?_⟩
  rw [if_pos hm] at c7
  have c9 : ¬ (((f y : Nat) : Int) < 0) := by omega
  simp only [Z58.l2, c1, c2, c3, hp, c4, c5, c7, c9, c6, if_true, if_false]
  exact q2
 ·have e : st1 out y = out ++ [y] := by unfold st1; rw [if_neg hm]
  obtain ⟨q, q1, q2⟩ := H _ (by rw [e]; exact hf.add hm hv ht)
  rw [e] at q2
  refine ⟨q, q1, ev_succ ?_⟩
  rw [if_neg hm] at c7
  have c9 : ((-1 : Int) < 0) := by omega
  simp only [Z58.l2, c1, c2, c3, hp, c4, c5, c7, c9, c8, c6, if_true, Int.toNat_natCast, partL_set hy, I_snoc]
  exact q2
theorem turnTo_loop {r u : List Nat} (hs : Sf r u) {im : Nat} (F : Nat) : ∀ (a : Nat) (out : List Nat) (f : Nat → Nat), RInv r.length out → FI r u im out f → a ≤ out.length → r.length < F + a →
  ∃ f', FI r u im (bfs r u F a out) f' ∧ Ev (fun k => Z58.l1 k (I (inv r)) (I (inv u)) (partL r.length out f) (I out) (a : Int) (I r) (I u)) (partL r.length (bfs r u F a out) f') := by
 have hle := hs.le
 have heq := hs.eq
 induction F with
 | zero =>
  intro a out f hr hf ha hF
  have := hr.le
  omega
 | succ F ih =>
  intro a out f hr hf ha hF
  by_cases h : a < out.length
  ·have hb : bfs r u (F + 1) a out = bfs r u F (a + 1) (st1 (st1 out (g r (g out a))) (g u (g out a))) := by
    rw [bfs, if_pos h]
   rw [hb]
   have hx := hr.g h
   have hxm : g out a ∈ out := g_mem h
   have hg1 := g_lt hs.pr hx
   have hg2 : g u (g out a) < r.length := by rw [← heq]; exact g_lt hs.pu (by omega)
   have hfx := hf.lt _ hxm
   have hv1 := ix_lt hs.pr hfx
   have hv2 : ix u (f (g out a)) < r.length := by rw [← heq]; exact ix_lt hs.pu (by omega)
   have r1 := hr.st hg1
   have r2 := r1.st hg2
   have t1 : ∀ b, TurnP r u b → g b 0 = im → ix r (f (g out a)) = g b (g r (g out a)) := fun b hb hb0 => by
    rw [hf.t b hb hb0 _ hxm, (hb.t (g out a) (by rw [hb.len]; exact hx)).1]
   have t2 : ∀ b, TurnP r u b → g b 0 = im → ix u (f (g out a)) = g b (g u (g out a)) := fun b hb hb0 => by
    rw [hf.t b hb hb0 _ hxm, (hb.t (g out a) (by rw [hb.len]; exact hx)).2]
   have K := turnTo_one hs hr hf hg1 hv1 t1 a 0 (by omega) [⟨((g r (g out a) : Nat) : Int), ((ix r (f (g out a)) : Nat) : Int)⟩, ⟨((g u (g out a) : Nat) : Int), ((ix u (f (g out a)) : Nat) : Int)⟩] rfl rfl (fun q => ∃ f', FI r u im (bfs r u F (a + 1) (st1 (st1 out (g r (g out a))) (g u (g out a)))) f' ∧ q = partL r.length (bfs r u F (a + 1) (st1 (st1 out (g r (g out a))) (g u (g out a)))) f') (fun f1 hf1 => by
    refine turnTo_one hs r1 hf1 hg2 hv2 t2 a 1 (by omega) _ rfl rfl _ (fun f2 hf2 => ?_)
    obtain ⟨f', i1, i2⟩ := ih (a + 1) _ f2 r2 hf2 (Nat.le_trans (by omega : a + 1 ≤ out.length) (Nat.le_trans (st1_len _ _) (st1_len _ _))) (by omega)
    refine ⟨_, ⟨f', i1, rfl⟩, ev_succ ?_⟩
    have d1 : ¬ (((1 + 1 : Nat) : Int) < 2) := by omega
    have d2 := w64s a (by have := hr.le; omega)
    simp only [Z58.l2, d1, if_false, d2]
    exact i2)
   obtain ⟨q, ⟨f', k1, k2⟩, k3⟩ := K
   refine ⟨f', k1, ?_⟩
   rw [← k2]
   refine ev_succ ?_
   have c1 : (a : Int) < (out.length : Int) := by omega
   have c2 : (0 : Int) ≤ (a : Int) := by omega
   have c3 : (0 : Int) ≤ ((g out a : Nat) : Int) := by omega
   have c4 : ((g out a : Nat) : Int) < (r.length : Int) := by omega
   have c5 : ((g out a : Nat) : Int) < ((partL r.length out f).length : Int) := by rw [partL_len]; omega
   have c6 := rd_partL (n := r.length) (out := out) (f := f) hx
   rw [if_pos hxm] at c6
   have c7 : (0 : Int) ≤ ((f (g out a) : Nat) : Int) := by omega
   have c8 : ((f (g out a) : Nat) : Int) < ((inv r).length : Int) := by rw [inv_len]; omega
   have c9 : ((g out a : Nat) : Int) < (u.length : Int) := by omega
   have c10 : ((f (g out a) : Nat) : Int) < ((inv u).length : Int) := by rw [inv_len]; omega
   have e1 : g (inv r) (f (g out a)) = ix r (f (g out a)) := g_inv hfx
   have e2 : g (inv u) (f (g out a)) = ix u (f (g out a)) := g_inv (by omega)
   simp only [Z58.l1, c1, c2, rdI, c3, c4, c5, c6, c7, c8, c9, c10, I_len', e1, e2, if_true, Option.bind_some]
   exact k3
  ·have hb : bfs r u (F + 1) a out = out := by rw [bfs, if_neg h]
   rw [hb]
   refine ⟨f, hf, ev_succ ?_⟩
   have c1 : ¬ ((a : Int) < (out.length : Int)) := by omega
   simp only [Z58.l1, c1, I_len', if_false]
   exact Ev.now _
theorem reach_all {r u : List Nat} (hs : Sf r u) (hnd : (reach r u 0).Nodup) (hlt : ∀ x ∈ reach r u 0, x < r.length) : ∀ x, x < r.length → x ∈ reach r u 0 := by
 have hp : IsP (reach r u 0) := ⟨fun x hx => by rw [hs.all]; exact hlt x hx, hnd⟩
 intro x hx
 exact mem_all hp (by rw [hs.all]; exact hx)
theorem bfs_inv {r u : List Nat} (hs : Sf r u) (F : Nat) : ∀ (a : Nat) (out : List Nat), RInv r.length out → RInv r.length (bfs r u F a out) := by
 induction F with
 | zero => intro a out h; exact h
 | succ F ih =>
  intro a out h
  unfold bfs
  split
  ·rename_i ha
   have hx := h.g ha
   exact ih _ _ ((h.st (g_lt hs.pr hx)).st (by rw [← hs.eq]; exact g_lt hs.pu (by rw [hs.eq]; exact hx)))
  ·exact h
theorem reach_inv {r u : List Nat} (hs : Sf r u) : RInv r.length (reach r u 0) := bfs_inv hs _ _ _ ⟨by simp, by have := hs.pos; simpa using this⟩
theorem impl_turnTo_ev {r u : List Nat} (hs : Sf r u) {im : Nat} (him : im < r.length) : ∃ t, t.length = r.length ∧ g t 0 = im ∧ (∀ b, TurnP r u b → g b 0 = im → t = b) ∧ Ev (fun k => Z58.f k (I r) (I u) (im : Int)) (I t) := by
 have hle := hs.le
 have heq := hs.eq
 have hpos := hs.pos
 have hf0 : FI r u im [0] (fun _ => im) := ⟨fun x hx => him, rfl, by simp, fun b hb hb0 x hx => by
  have : x = 0 := by simpa using hx
  subst this
  exact hb0.symm⟩
 obtain ⟨f, hf, hev⟩ := turnTo_loop hs (r.length + 1) 0 [0] (fun _ => im) ⟨by simp, by simpa using hpos⟩ hf0 (by simp) (by omega)
 have hri := reach_inv hs
 have hall := reach_all hs hri.nd hri.lt
 have hb : bfs r u (r.length + 1) 0 [0] = reach r u 0 := rfl
 rw [hb] at hf hev
 rw [partL_full hall] at hev
 refine ⟨tab r.length f, tab_len _ _, by rw [g_tab hpos, hf.z], fun b hb hb0 => ?_, ?_⟩
 ·exact (eq_tab hb.len (fun i hi => (hf.t b hb hb0 i (hall i hi)).symm)).symm
 ·unfold Z58.f
  refine Ev.bind (impl_inv hs.pr hs.le) (Ev.bind (impl_inv hs.pu (by omega)) ?_)
  have h1 : (0 : Int) ≤ (r.length : Int) := by omega
  have h2 : r.length ≤ 35184372088832 := by omega
  simp only [I_len', h1, h2, if_true, Int.toNat_natCast, Option.bind_some, List.length_replicate]
  have H : ∀ (d i : Nat) (c : List Int), i + d = r.length → c.length = r.length → (∀ j : Nat, j < i → rd c (j : Int) = -1) → Ev (fun k => Z58.l0 k (im : Int) (I (inv r)) (I (inv u)) c (r.length : Int) (i : Int) (I r) (I u)) (I (tab r.length f)) := by
   intro d
   induction d with
   | zero =>
    intro i c h hc hx
    refine ev_succ ?_
    have c1 : ¬ ((i : Int) < (r.length : Int)) := by omega
    have c2 : (0 : Int) < (c.length : Int) := by omega
    have e : c.set (0 : Int).toNat (im : Int) = partL r.length [0] (fun _ => im) := by
     have e0 : c = partL r.length [] (fun _ => im) := ext_rd (by rw [hc, partL_len]) (fun j hj => by
      rw [rd_partL (by omega), hx j (by omega)]
      simp)
     rw [e0, show (0 : Int).toNat = 0 from rfl, partL_set hpos]
     refine ext_rd (by rw [partL_len, partL_len]) (fun j hj => ?_)
     rw [partL_len] at hj
     rw [rd_partL hj, rd_partL hj]
     by_cases e : j = 0
     ·simp [e]
     ·simp [e]
    simp only [Z58.l0, c1, c2, if_true, if_false, e]
    exact hev
   | succ d ih =>
    intro i c h hc hx
    refine ev_succ ?_
    have c1 : (i : Int) < (r.length : Int) := by omega
    have c2 : (0 : Int) ≤ (i : Int) := by omega
    have c3 : (i : Int) < (c.length : Int) := by omega
    have c4 := w64s i (by omega)
    simp only [Z58.l0, c1, c2, c3, c4, if_true, Int.toNat_natCast]
    refine ih (i + 1) _ (by omega) (by rw [List.length_set]; exact hc) (fun j hj => ?_)
    rw [rd_set (by omega)]
    by_cases e : i = j
    ·simp [e]
    ·rw [if_neg e]
     exact hx j (by omega)
  exact H r.length 0 _ (by omega) (by simp) (fun j hj => by omega)
end Go.Proofs.Ytoijcallajegfaa.M
end
section
/- Half turns: the program and the reference find the same ones. No conditions. -/
namespace Go.Proofs.Ytoijcallajegfaa.M
set_option linter.unusedVariables false
set_option linter.unusedSimpArgs false
open Go.RowKit Go.Proofs.YtoijcallajegfaaW.PrintWords Go.Proofs.YtoijcallajegfaaW.PrintLast Go.Proofs.YtoijcallajegfaaW.PrintMore Go.Proofs.Ytoijcallajegfaa.A
def Led (r u out : List Nat) (a : Nat) : Prop := ∀ i, i < out.length → 0 < i → ∃ j, j < i ∧ j < a ∧ (g out i = g r (g out j) ∨ g out i = g u (g out j))
theorem g_app {out : List Nat} {x i : Nat} (h : i < out.length) : g (out ++ [x]) i = g out i := by
 unfold g
 rw [List.getD_eq_getElem?_getD, List.getD_eq_getElem?_getD, List.getElem?_append_left h]
theorem g_last (out : List Nat) (x : Nat) : g (out ++ [x]) out.length = x := getD_mid out x [] 0
theorem Led.st {r u out : List Nat} {a y : Nat} (h : Led r u out (a + 1)) (ha : a < out.length) (hy : y = g r (g out a) ∨ y = g u (g out a)) : Led r u (st1 out y) (a + 1) := by
 unfold st1
 split
 ·exact h
 ·intro i hi h0
  by_cases e : i < out.length
  ·obtain ⟨j, j1, j2, j3⟩ := h i e h0
   refine ⟨j, j1, j2, ?_⟩
   rw [g_app e, g_app (by omega)]
   exact j3
  ·have e2 : i = out.length := by simp at hi; omega
   subst e2
   refine ⟨a, ha, by omega, ?_⟩
   rw [g_last, g_app ha]
   exact hy
inductive Given (r u L : List Nat) (i : Nat) : Nat → Prop
 | z : Given r u L i 0
 | r (j : Nat) : j < i → Given r u L i (g r (g L j))
 | u (j : Nat) : j < i → Given r u L i (g u (g L j))
theorem Given.mono {r u L : List Nat} {i x : Nat} (h : Given r u L i x) : Given r u L (i + 1) x := by
 cases h with
 | z => exact .z
 | r j hj => exact .r j (by omega)
 | u j hj => exact .u j (by omega)
structure GI (r u : List Nat) (im : Nat) (i : Nat) (c : List Nat) : Prop where
 len : c.length = r.length
 lt : ∀ x, x < r.length → g c x < r.length
 t : ∀ b, TurnP r u b → g b 0 = im → ∀ x, Given r u (reach r u 0) i x → g c x = g b x
 n : ∀ b, TurnP r u b → g b 0 ≠ im → ∀ x, Given r u (reach r u 0) i x → g c x ≠ g b x
theorem GI.put {r u : List Nat} (hs : Sf r u) {p : List Nat} (hp : p = r ∨ p = u) {im : Nat} {c : List Nat} (P : Nat → Prop) (h1 : c.length = r.length) (h2 : ∀ x, x < r.length → g c x < r.length) (ht : ∀ b, TurnP r u b → g b 0 = im → ∀ x, P x → g c x = g b x) (hn : ∀ b, TurnP r u b → g b 0 ≠ im → ∀ x, P x → g c x ≠ g b x) {x : Nat} (hx : x < r.length) (hP : P x) :
  (c.set (g p x) (ix p (g c x))).length = r.length ∧ (∀ z, z < r.length → g (c.set (g p x) (ix p (g c x))) z < r.length) ∧ (∀ b, TurnP r u b → g b 0 = im → ∀ z, (P z ∨ z = g p x) → g (c.set (g p x) (ix p (g c x))) z = g b z) ∧ (∀ b, TurnP r u b → g b 0 ≠ im → ∀ z, (P z ∨ z = g p x) → g (c.set (g p x) (ix p (g c x))) z ≠ g b z) := by
 have heq := hs.eq
 have ipp : IsP p := by rcases hp with rfl | rfl; exact hs.pr; exact hs.pu
 have hpl : p.length = r.length := by rcases hp with rfl | rfl; rfl; exact heq
 have gx := g_lt ipp (i := x) (by omega)
 have cx := h2 x hx
 have hv := ix_lt ipp (x := g c x) (by omega)
 have tp : ∀ b, TurnP r u b → g b (g p x) = ix p (g b x) := fun b hb => by
  have := hb.t x (by rw [hb.len]; exact hx)
  rcases hp with rfl | rfl
  ·exact this.1
  ·exact this.2
 refine ⟨by rw [List.length_set]; exact h1, fun z hz => ?_, fun b hb hb0 z hz => ?_, fun b hb hb0 z hz => ?_⟩
 ·rw [g_set (by omega)]
  split
  ·omega
  ·exact h2 z hz
 ·rw [g_set (by omega)]
  by_cases e : g p x = z
  ·rw [if_pos e, ← e, tp b hb, ht b hb hb0 x hP]
  ·rw [if_neg e]
   rcases hz with hz | hz
   ·exact ht b hb hb0 z hz
   ·exact absurd hz.symm e
 ·rw [g_set (by omega)]
  by_cases e : g p x = z
  ·rw [if_pos e, ← e, tp b hb]
   intro h
   exact hn b hb hb0 x hP (ix_inj ipp (by omega) (by have := g_lt hb.p (i := x) (by rw [hb.len]; exact hx); rw [hb.len] at this; omega) h)
  ·rw [if_neg e]
   rcases hz with hz | hz
   ·exact hn b hb hb0 z hz
   ·exact absurd hz.symm e
end Go.Proofs.Ytoijcallajegfaa.M
end
section
/- Fixed points: the program and the reference answer alike. No conditions. -/
namespace Go.Proofs.Ytoijcallajegfaa.M
set_option linter.unusedVariables false
set_option linter.unusedSimpArgs false
open Go.RowKit Go.Proofs.YtoijcallajegfaaW.PrintWords Go.Proofs.YtoijcallajegfaaW.PrintLast Go.Proofs.YtoijcallajegfaaW.PrintMore Go.Proofs.Ytoijcallajegfaa.A
theorem impl_corners {r u : List Nat} (hs : Sf r u) : Ev (fun k => Z27.f k (I r) (I u)) (I2 (cycles (arnd r u))) := by
 unfold Z27.f
 refine Ev.bind (impl_surf _ _) ?_
 rw [surfB_I.mpr hs]
 simp only [if_true]
 exact Ev.bind (impl_around hs) (Ev.bind (impl_cycles (isP_arnd hs) (by rw [arnd_len]; exact hs.le)) (Ev.now _))
end Go.Proofs.Ytoijcallajegfaa.M
end
section
/- The genus of a quotient: the program and the reference answer alike. No conditions. -/
namespace Go.Proofs.Ytoijcallajegfaa.M
set_option linter.unusedVariables false
set_option linter.unusedSimpArgs false
open Go.RowKit Go.Proofs.YtoijcallajegfaaW.PrintWords Go.Proofs.YtoijcallajegfaaW.PrintLast Go.Proofs.YtoijcallajegfaaW.PrintMore Go.Proofs.Ytoijcallajegfaa.A
def genusI (n c : Nat) : Int := wrap64 (1 + (wrap64 (Int.tdiv (wrap64 ((n : Int) - (c : Int))) 2)))
end Go.Proofs.Ytoijcallajegfaa.M
end
section
/- Numbers drawn out of a code. No conditions. -/
namespace Go.Proofs.Ytoijcallajegfaa.M
set_option linter.unusedVariables false
set_option linter.unusedSimpArgs false
open Go.RowKit Go.Proofs.YtoijcallajegfaaW.PrintWords Go.Proofs.YtoijcallajegfaaW.PrintLast Go.Proofs.YtoijcallajegfaaW.PrintMore Go.Proofs.Ytoijcallajegfaa.A
theorem and255 (n : Int) : Go.bits .and .i64 n 255 = n % 256 := by
 have h : (BitVec.ofInt 64 255).toNat = 2 ^ 8 - 1 := by decide
 have key : (BitVec.ofInt 64 n &&& BitVec.ofInt 64 255).toNat = (n % ((2 ^ 64 : Nat) : Int)).toNat % 2 ^ 8 := by
  rw [BitVec.toNat_and, BitVec.toNat_ofInt, h, Nat.and_two_pow_sub_one_eq_mod]
 show IntKind.i64.wrap ((BitVec.ofInt 64 n &&& BitVec.ofInt 64 255).toNat : Nat) = n % 256
 rw [key, IntKind.wrap_i64]
 omega
theorem byte_draw (b : List Int) (i h : Int) (hi : 0 ≤ i) (hl : i ≤ b.length) (hb : b.length ≤ 1000000000) : ∃ x i' h', Z50.f b i h = some (x, i', h') ∧ 0 ≤ x ∧ x ≤ 255 ∧ 0 ≤ i' ∧ i' ≤ b.length := by
 unfold Z50.f
 by_cases c : i < (b.length : Int)
 ·have e : wrap64 (i + 1) = i + 1 := w64 (by omega) (by omega)
  simp only [c, hi, if_true, and255, e]
  exact ⟨_, _, _, rfl, by omega, by omega, by omega, by omega⟩
 ·simp only [c, if_false, and255]
  exact ⟨_, _, _, rfl, by omega, by omega, by omega, by omega⟩
theorem below_draw (b : List Int) (i h a : Int) (hi : 0 ≤ i) (hl : i ≤ b.length) (hb : b.length ≤ 1000000000) (h0 : 0 < a) (h1 : a ≤ 256) : ∃ x i' h', Z42.f b i h a = some (x, i', h') ∧ 0 ≤ x ∧ x < a ∧ 0 ≤ i' ∧ i' ≤ b.length := by
 obtain ⟨x, i', h', e, x0, x1, j0, j1⟩ := byte_draw b i h hi hl hb
 unfold Z42.f
 have c1 : ¬ a ≤ 0 := by omega
 have c2 : ¬ a = 0 := by omega
 simp only [c1, h1, e, c2, if_true, if_false, Option.bind_some]
 refine ⟨_, _, _, rfl, ?_, ?_, j0, j1⟩
 ·rw [Int.tmod_eq_emod_of_nonneg x0]
  exact Int.emod_nonneg _ c2
 ·rw [Int.tmod_eq_emod_of_nonneg x0]
  exact Int.emod_lt_of_pos _ h0
theorem new_draw (b : List Int) (hb : b.length ≤ 1000000000) : ∃ h, Ev (fun k => Z61.f k b) (b, 0, h) := by
 unfold Z61.f
 have H : ∀ (d i : Nat) (x : Int), i + d = b.length → ∃ h, Ev (fun k => Z61.l0 k b x (i : Int)) (b, 0, h) := by
  intro d
  induction d with
  | zero =>
   intro i x hi
   refine ⟨x, ev_succ ?_⟩
   have c1 : ¬ ((i : Int) < (b.length : Int)) := by omega
   simp only [Z61.l0, c1, if_false]
   exact Ev.now _
  | succ d ih =>
   intro i x hi
   have c1 : (i : Int) < (b.length : Int) := by omega
   have c2 : (0 : Int) ≤ (i : Int) := by omega
   have c3 := w64s i (by omega)
   by_cases c4 : (i : Int) < 4000
   ·obtain ⟨h, e⟩ := ih (i + 1) (Go.bits .and .i64 (wrap64 ((wrap64 ((wrap64 (x * 109)) + (wrap64 (rd b (i : Int))))) + 7)) 1073741823) (by omega)
    refine ⟨h, ev_succ ?_⟩
    simp only [Z61.l0, c1, c2, c3, c4, if_true]
    exact e
   ·refine ⟨x, ev_succ ?_⟩
    simp only [Z61.l0, c1, c4, if_true, if_false]
    exact Ev.now _
 exact H b.length 0 _ (by omega)
theorem skip_draw (b : List Int) (hb : b.length ≤ 1000000000) (n : Nat) (hn : n ≤ 1000) : ∃ i h, 0 ≤ i ∧ i ≤ (b.length : Int) ∧ Ev (fun k => Z64.f k b (n : Int)) (b, i, h) := by
 unfold Z64.f
 obtain ⟨h0, e0⟩ := new_draw b hb
 have H : ∀ (d j : Nat) (i h : Int), j + d = n → 0 ≤ i → i ≤ (b.length : Int) → ∃ i' h', 0 ≤ i' ∧ i' ≤ (b.length : Int) ∧ Ev (fun k => Z64.l0 k b i h (n : Int) (j : Int)) (b, i', h') := by
  intro d
  induction d with
  | zero =>
   intro j i h hj i0 i1
   obtain rfl : j = n := by omega
   refine ⟨i, h, i0, i1, ev_succ ?_⟩
   have c1 : ¬ ((j : Int) < (j : Int)) := by omega
   simp only [Z64.l0, c1, if_false]
   exact Ev.now _
  | succ d ih =>
   intro j i h hj i0 i1
   obtain ⟨x, i', h', e, _, _, j0, j1⟩ := byte_draw b i h i0 i1 hb
   obtain ⟨i2, h2, k0, k1, k2⟩ := ih (j + 1) i' h' (by omega) j0 j1
   refine ⟨i2, h2, k0, k1, ev_succ ?_⟩
   have c1 : (j : Int) < (n : Int) := by omega
   have c3 := w64s j (by omega)
   simp only [Z64.l0, c1, e, c3, if_true, Option.bind_some]
   exact k2
 obtain ⟨i, h, i0, i1, e1⟩ := H n 0 0 h0 (by omega) (by omega) (by omega)
 exact ⟨i, h, i0, i1, Ev.bind e0 e1⟩
end Go.Proofs.Ytoijcallajegfaa.M
end
section
/- Drawn surfaces. No conditions. -/
namespace Go.Proofs.Ytoijcallajegfaa.M
set_option linter.unusedVariables false
set_option linter.unusedSimpArgs false
open Go.RowKit Go.Proofs.YtoijcallajegfaaW.PrintWords Go.Proofs.YtoijcallajegfaaW.PrintLast Go.Proofs.YtoijcallajegfaaW.PrintMore Go.Proofs.Ytoijcallajegfaa.A
theorem perm_draw (b : List Int) (hb : b.length ≤ 1000000000) (n : Nat) (hn : n ≤ 100) (i h : Int) (hi : 0 ≤ i) (hl : i ≤ b.length) : ∃ l i' h', l.length = n ∧ 0 ≤ i' ∧ i' ≤ (b.length : Int) ∧ Ev (fun k => Z51.f k b i h (n : Int)) (l, i', h') := by
 unfold Z51.f
 have H : ∀ (d j : Nat) (l : List Int) (i h : Int), j + d = n → l.length = j → 0 ≤ i → i ≤ (b.length : Int) → ∃ l' i' h', l'.length = n ∧ 0 ≤ i' ∧ i' ≤ (b.length : Int) ∧ Ev (fun k => Z51.l0 k (n : Int) l (j : Int) b i h) (l', i', h') := by
  intro d
  induction d with
  | zero =>
   intro j l i h hj hl i0 i1
   obtain rfl : j = n := by omega
   refine ⟨l, i, h, hl, i0, i1, ev_succ ?_⟩
   have c1 : ¬ ((j : Int) < (j : Int)) := by omega
   simp only [Z51.l0, c1, if_false]
   exact Ev.now _
  | succ d ih =>
   intro j l i h hj hl i0 i1
   obtain ⟨x, i', h', e, x0, x1, j0, j1⟩ := below_draw b i h ((j + 1 : Nat) : Int) i0 i1 hb (by omega) (by omega)
   have hlen : (l ++ [(j : Int)]).length = j + 1 := by simp [hl]
   obtain ⟨l2, i2, h2, k0, k1, k2, k3⟩ := ih (j + 1) (((l ++ [(j : Int)]).set ((j : Int)).toNat (rd (l ++ [(j : Int)]) x)).set x.toNat (j : Int)) i' h' (by omega) (by rw [List.length_set, List.length_set, hlen]) j0 j1
   refine ⟨l2, i2, h2, k0, k1, k2, ev_succ ?_⟩
   have c1 : (j : Int) < (n : Int) := by omega
   have c2 : l.length < 17592186044416 := by omega
   have c4 : x < ((l ++ [(j : Int)]).length : Int) := by rw [hlen]; exact x1
   have c5 : (0 : Int) ≤ (j : Int) := by omega
   have c6 : (j : Int) < ((l ++ [(j : Int)]).length : Int) := by rw [hlen]; omega
   have c3 := w64s j (by omega)
   simp only [Z51.l0, c1, c2, c3, e, x0, c4, c5, c6, if_true, Option.bind_some]
   exact k3
 exact H n 0 [] i h (by omega) rfl hi hl
def smallS : Option (List Int × List Int × Bool) → Bool
 | some z => surfB z.1 z.2.1 && decide (z.1.length ≤ 12)
 | none => false
theorem smallS_ok : ∀ {z : Option (List Int × List Int × Bool)}, smallS z = true → ∃ r u b, z = some (I r, I u, b) ∧ Sf r u ∧ r.length ≤ 12
 | none, h => by cases h
 | some (x, y, b), h => by
  have h' := (Bool.and_eq_true _ _).mp h
  obtain ⟨r, u, e1, e2, hs⟩ := surf_nat h'.1
  have e1 : x = I r := e1
  have e2 : y = I u := e2
  have h2 : x.length ≤ 12 := of_decide_eq_true h'.2
  refine ⟨r, u, b, by rw [e1, e2], hs, ?_⟩
  rw [e1, I_len] at h2
  exact h2
theorem ell_tab : ∀ a : Fin 6, ∀ b : Fin 5, 1 ≤ a.val → 1 ≤ b.val → smallS (Z65.f 400 (a.val : Int) (b.val : Int)) = true := by decide +kernel
theorem torus_tab : ∀ a : Fin 5, ∀ b : Fin 4, 1 ≤ a.val → 1 ≤ b.val → smallS (Z49.f 400 (a.val : Int) (b.val : Int)) = true := by decide +kernel
theorem ell_ev (a b : Nat) (h1 : 1 ≤ a) (h2 : a ≤ 5) (h3 : 1 ≤ b) (h4 : b ≤ 4) : ∃ r u c, Ev (fun k => Z65.f k (a : Int) (b : Int)) (I r, I u, c) ∧ Sf r u ∧ r.length ≤ 12 := by
 obtain ⟨r, u, c, e, hs, hl⟩ := smallS_ok (ell_tab ⟨a, by omega⟩ ⟨b, by omega⟩ h1 h3)
 exact ⟨r, u, c, Ev.of (fun k => Z65.mono _ _ _) e, hs, hl⟩
theorem torus_ev (a b : Nat) (h1 : 1 ≤ a) (h2 : a ≤ 4) (h3 : 1 ≤ b) (h4 : b ≤ 3) : ∃ r u c, Ev (fun k => Z49.f k (a : Int) (b : Int)) (I r, I u, c) ∧ Sf r u ∧ r.length ≤ 12 := by
 obtain ⟨r, u, c, e, hs, hl⟩ := smallS_ok (torus_tab ⟨a, by omega⟩ ⟨b, by omega⟩ h1 h3)
 exact ⟨r, u, c, Ev.of (fun k => Z49.mono _ _ _) e, hs, hl⟩
theorem surf_draw (b : List Int) (hb : b.length ≤ 1000000000) (m : Nat) (h1 : 1 ≤ m) (h2 : m ≤ 5) (i h : Int) (hi : 0 ≤ i) (hl : i ≤ b.length) : ∃ r u i' h', (Sf r u ∧ r.length ≤ 12) ∧ Ev (fun k => Z53.f k b i h (m : Int)) (I r, I u, i', h') := by
 obtain ⟨x, i1, h1', e, x0, x1, j0, j1⟩ := below_draw b i h (m : Int) hi hl hb (by omega) (by omega)
 unfold Z53.f
 obtain ⟨n, hn⟩ : ∃ n : Nat, wrap64 (1 + x) = (n : Int) ∧ 1 ≤ n ∧ n ≤ 5 := ⟨(1 + x).toNat, by rw [w64 (by omega) (by omega)]; omega, by omega, by omega⟩
 obtain ⟨hn, n1, n5⟩ := hn
 simp only [e, Option.bind_some, hn]
 clear e hn
 have H : ∀ (d t : Nat) (i h : Int), t + d = 8 → 0 ≤ i → i ≤ (b.length : Int) → ∃ r u i' h', (Sf r u ∧ r.length ≤ 12) ∧ Ev (fun k => Z53.l0 k (n : Int) (t : Int) b i h) (I r, I u, i', h') := by
  intro d
  induction d with
  | zero =>
   intro t i h ht i0 i1
   obtain rfl : t = 8 := by omega
   obtain ⟨r, u, c, e, hs, hl⟩ := ell_ev n 1 n1 n5 (by omega) (by omega)
   refine ⟨r, u, i, h, ⟨hs, hl⟩, ev_succ ?_⟩
   have c1 : ¬ (((8 : Nat) : Int) < 8) := by omega
   simp only [Z53.l0, c1, if_false]
   exact Ev.bind e (Ev.now _)
  | succ d ih =>
   intro t i h ht i0 i1
   obtain ⟨p, i2, h2, pl, j0, j1, e1⟩ := perm_draw b hb n (by omega) i h i0 i1
   obtain ⟨q, i3, h3, ql, k0, k1, e2⟩ := perm_draw b hb n (by omega) i2 h2 j0 j1
   have c1 : (t : Int) < 8 := by omega
   have c2 := w64s t (by omega)
   by_cases hs : surfB p q = true
   ·have hs' := hs
    obtain ⟨r, u, rfl, rfl, hsf⟩ := surf_nat hs
    rw [I_len] at pl
    refine ⟨r, u, i3, h3, ⟨hsf, by omega⟩, ev_succ ?_⟩
    simp only [Z53.l0, c1, if_true]
    refine Ev.bind e1 (Ev.bind e2 (Ev.bind (spec_surf _ _) ?_))
    simp only [hs', if_true]
    exact Ev.now _
   ·obtain ⟨r, u, i4, h4, hh, e4⟩ := ih (t + 1) i3 h3 (by omega) k0 k1
    refine ⟨r, u, i4, h4, hh, ev_succ ?_⟩
    simp only [Z53.l0, c1, c2, if_true]
    refine Ev.bind e1 (Ev.bind e2 (Ev.bind (spec_surf _ _) ?_))
    simp only [hs, if_false]
    exact e4
 exact H 8 0 _ _ (by omega) j0 j1
theorem spec_shear {r u : List Nat} (hs : Sf r u) : Ev (fun k => Z44.f k (I r) (I u)) (I r, I (thn (inv r) u)) := by
 have hle := hs.le
 unfold Z44.f
 have c1 : ([] : List Int).length + (I r).length < 17592186044416 := by rw [I_len]; simp; omega
 simp only [Option.bind_some, c1, if_true, List.nil_append]
 refine Ev.bind (spec_inv hs.pr hs.le) (Ev.bind (spec_then (p := inv r) (q := u) (fun i hi => ?_) (by rw [inv_len]; omega)) (Ev.now _))
 have := g_lt (isP_inv hs.pr) hi
 rw [inv_len] at this
 rw [hs.eq]
 exact this
theorem makeSurf_ev (b : List Int) (hb : b.length ≤ 1000000000) : ∃ r u, Sf r u ∧ r.length ≤ 12 ∧ Ev (fun k => Z21.f k b) (I r, I u) := by
 obtain ⟨h0, e0⟩ := new_draw b hb
 unfold Z21.f
 obtain ⟨x, i1, h1, e1, x0, x1, j0, j1⟩ := below_draw b 0 h0 4 (by omega) (by omega) hb (by omega) (by omega)
 by_cases cx : x = 0
 ·obtain ⟨y, i2, h2, e2, y0, y1, k0, k1⟩ := below_draw b i1 h1 4 j0 j1 hb (by omega) (by omega)
  obtain ⟨z, i3, h3, e3, z0, z1, l0, l1⟩ := below_draw b i2 h2 3 k0 k1 hb (by omega) (by omega)
  obtain ⟨v, i4, h4, e4, v0, v1, m0, m1⟩ := below_draw b i3 h3 4 l0 l1 hb (by omega) (by omega)
  obtain ⟨r, u, c, et, hs, hl⟩ := torus_ev (1 + y).toNat (1 + z).toNat (by omega) (by omega) (by omega) (by omega)
  have wy : wrap64 (1 + y) = (((1 + y).toNat : Nat) : Int) := by rw [w64 (by omega) (by omega)]; omega
  have wz : wrap64 (1 + z) = (((1 + z).toNat : Nat) : Int) := by rw [w64 (by omega) (by omega)]; omega
  have H : ∀ (n : Nat), n ≤ 4 → ∀ r u, Sf r u → r.length ≤ 12 → ∃ r' u', Sf r' u' ∧ r'.length ≤ 12 ∧ Ev (fun k => Z21.l0 k (n : Int) (I r) (I u)) (I r', I u') := by
   intro n
   induction n with
   | zero =>
    intro _ r u hs hl
    refine ⟨r, u, hs, hl, ev_succ ?_⟩
    have c1 : ¬ (((0 : Nat) : Int) > 0) := by omega
    simp only [Z21.l0, c1, if_false]
    exact Ev.now _
   | succ n ih =>
    intro hn r u hs hl
    obtain ⟨r', u', g1, g2, g3⟩ := ih (by omega) r _ (sf_T hs) hl
    refine ⟨r', u', g1, g2, ev_succ ?_⟩
    have c1 : ((n + 1 : Nat) : Int) > 0 := by omega
    have c2 : wrap64 (((n + 1 : Nat) : Int) - 1) = (n : Int) := by rw [w64 (by omega) (by omega)]; omega
    simp only [Z21.l0, c1, c2, if_true]
    exact Ev.bind (spec_shear hs) g3
  obtain ⟨r', u', g1, g2, g3⟩ := H v.toNat (by omega) r u hs hl
  rw [Int.toNat_of_nonneg v0] at g3
  refine ⟨r', u', g1, g2, Ev.bind e0 ?_⟩
  simp only [e1, e2, e3, e4, Option.bind_some, cx, wy, wz, if_true]
  exact Ev.bind et g3
 ·by_cases cx1 : x = 1
  ·obtain ⟨y, i2, h2, e2, y0, y1, k0, k1⟩ := below_draw b i1 h1 4 j0 j1 hb (by omega) (by omega)
   obtain ⟨z, i3, h3, e3, z0, z1, l0, l1⟩ := below_draw b i2 h2 4 k0 k1 hb (by omega) (by omega)
   obtain ⟨r, u, c, et, hs, hl⟩ := ell_ev (1 + y).toNat (1 + z).toNat (by omega) (by omega) (by omega) (by omega)
   have wy : wrap64 (1 + y) = (((1 + y).toNat : Nat) : Int) := by rw [w64 (by omega) (by omega)]; omega
   have wz : wrap64 (1 + z) = (((1 + z).toNat : Nat) : Int) := by rw [w64 (by omega) (by omega)]; omega
   refine ⟨r, u, hs, hl, Ev.bind e0 ?_⟩
   have c1 : ¬ ((1 : Int) = 0) := by omega
   simp only [e1, e2, e3, Option.bind_some, cx1, c1, wy, wz, if_true, if_false]
   exact Ev.bind et (Ev.now _)
  ·obtain ⟨r, u, i2, h2, ⟨hs, hl⟩, e2⟩ := surf_draw b hb 5 (by omega) (by omega) i1 h1 j0 j1
   refine ⟨r, u, hs, hl, Ev.bind e0 ?_⟩
   simp only [e1, Option.bind_some, cx, cx1, if_false]
   exact Ev.bind e2 (Ev.now _)
end Go.Proofs.Ytoijcallajegfaa.M
end
section
/- The laws' own sorting. No conditions. -/
namespace Go.Proofs.Ytoijcallajegfaa.M
set_option linter.unusedVariables false
set_option linter.unusedSimpArgs false
open Go.RowKit Go.Proofs.YtoijcallajegfaaW.PrintWords Go.Proofs.YtoijcallajegfaaW.PrintLast Go.Proofs.YtoijcallajegfaaW.PrintMore Go.Proofs.Ytoijcallajegfaa.A
theorem law_same (a : List Int) (hl : a.length ≤ 1000000000) : Ev (fun k => Z67.f k a a) true := by
 unfold Z67.f
 simp only [if_true]
 have H : ∀ d j : Nat, j + d = a.length → Ev (fun k => Z67.l0 k a a (a.length : Int) (j : Int)) true := by
  intro d
  induction d with
  | zero =>
   intro j hj
   refine ev_succ ?_
   have c1 : ¬ ((j : Int) < (a.length : Int)) := by omega
   simp only [Z67.l0, c1, if_false]
   exact Ev.now _
  | succ d ih =>
   intro j hj
   refine ev_succ ?_
   have c1 : (j : Int) < (a.length : Int) := by omega
   have c2 : (0 : Int) ≤ (j : Int) := by omega
   have c3 := w64s j (by omega)
   simp only [Z67.l0, c1, c2, c3, if_true]
   exact ih (j + 1) (by omega)
 exact H a.length 0 (Nat.zero_add _)
end Go.Proofs.Ytoijcallajegfaa.M
end
section
/- Surfaces that are alike; surfaces that a word keeps. No conditions. -/
namespace Go.Proofs.Ytoijcallajegfaa.M
set_option linter.unusedVariables false
set_option linter.unusedSimpArgs false
open Go.RowKit Go.Proofs.YtoijcallajegfaaW.PrintWords Go.Proofs.YtoijcallajegfaaW.PrintLast Go.Proofs.YtoijcallajegfaaW.PrintMore Go.Proofs.Ytoijcallajegfaa.A
theorem impl_same (a b : List Nat × List Nat) (h1 : a.1.length ≤ 1000000) (h2 : a.2.length ≤ 1000000) : Ev (fun k => Z18.f k (I a.1) (I a.2) (I b.1) (I b.2)) (decide (a = b)) := by
 unfold Z18.f
 refine Ev.bind (equal_ev a.1 b.1 (by omega)) ?_
 by_cases h : a.1 = b.1
 ·have e : decide (a = b) = decide (a.2 = b.2) := by
   rw [decide_eq_decide, Prod.ext_iff]
   simp [h]
  rw [e]
  simp only [h, decide_true, if_true]
  exact Ev.bind (equal_ev a.2 b.2 (by omega)) (Ev.now _)
 ·have e : decide (a = b) = false := by
   rw [decide_eq_false_iff_not]
   intro e
   exact h (by rw [e])
  rw [e]
  simp only [h, decide_false, Bool.false_eq_true, if_false]
  exact Ev.now _
end Go.Proofs.Ytoijcallajegfaa.M
end
section
/- What words keep: the program's answers. No conditions. -/
namespace Go.Proofs.Ytoijcallajegfaa.M
set_option linter.unusedVariables false
set_option linter.unusedSimpArgs false
open Go.RowKit Go.Proofs.YtoijcallajegfaaW.PrintWords Go.Proofs.YtoijcallajegfaaW.PrintLast Go.Proofs.YtoijcallajegfaaW.PrintMore Go.Proofs.Ytoijcallajegfaa.A
theorem conj_lens {p q : List Nat} (hp : IsP p) (hq : IsP q) (hl : p.length = q.length) (h : Nat → Nat) (h1 : ∀ x, x < p.length → h x < p.length) (h2 : ∀ x y, x < p.length → y < p.length → h x = h y → x = y) (h3 : ∀ x, x < p.length → h (g p x) = g q (h x)) : sortD ((cycles p).map List.length) = sortD ((cycles q).map List.length) := by
 refine lens_eq hp hq hl h (fun x hx => by rw [← hl]; exact h1 x hx) h2 (fun x hx => ?_)
 have key : ∀ m, itr q m (h x) = h (itr p m x) := by
  intro m
  induction m with
  | zero => rfl
  | succ m ih => rw [itr, itr, ih, h3 _ (itr_lt hp m hx)]
 refine per_eq_of hq hp (by rw [← hl]; exact h1 x hx) hx (fun m => ?_)
 rw [key]
 exact ⟨fun e => h2 _ _ (itr_lt hp m hx) hx e, fun e => by rw [e]⟩
def angL (s : List Nat × List Nat) : List Nat := sortD ((cycles (arnd s.1 s.2)).map List.length)
theorem angL_lt {s : List Nat × List Nat} (hs : Sf s.1 s.2) (c : Int) : angL (lt c s) = angL s := by
 have hl := (sf_lt hs c).2
 have key : ∀ h : Nat → Nat, (∀ x, x < s.1.length → h x < s.1.length) → (∀ x y, x < s.1.length → y < s.1.length → h x = h y → x = y) → (∀ x, x < s.1.length → h (g (arnd s.1 s.2) x) = g (arnd (lt c s).1 (lt c s).2) (h x)) → angL (lt c s) = angL s := by
  intro h h1 h2 h3
  refine (conj_lens (isP_arnd hs) (isP_arnd (sf_lt hs c).1) (by rw [arnd_len, arnd_len, hl]) h ?_ ?_ ?_).symm
  ·rw [arnd_len]; exact h1
  ·rw [arnd_len]; exact h2
  ·rw [arnd_len]; exact h3
 have ir := fun x y (hx : x < s.1.length) (hy : y < s.1.length) e => g_inj hs.pr hx hy e
 have h0 := (sf_lt hs c).1
 rcases lt_four c with h | h | h | h <;> rw [h] at key h0 <;> rw [h]
 ·refine key (g s.1) (fun x hx => hs.gr hx) ir (fun x hx => ?_)
  have x1 := hs.gr hx
  have x2 := hs.gu x1
  have x3 := hs.ir x2
  rw [g_arnd hs hx, g_arnd h0 x1]
  show _ = ix (thn (inv s.1) s.2) (ix s.1 (g (thn (inv s.1) s.2) (g s.1 (g s.1 x))))
  rw [gT hs (hs.gr x1), ixr hs x1, xT hs x3]
 ·refine key (ix s.1) (fun x hx => hs.ir hx) (fun x y hx hy e => by rw [← grx hs hx, ← grx hs hy, e]) (fun x hx => ?_)
  have x1 := hs.gr hx
  have x2 := hs.gu x1
  have x3 := hs.ir x2
  have y1 := hs.ir hx
  rw [g_arnd hs hx, g_arnd h0 y1]
  show _ = ix (thn s.1 s.2) (ix s.1 (g (thn s.1 s.2) (g s.1 (ix s.1 x))))
  rw [grx hs hx, gt hs hx, xt hs x3]
 ·refine key (g s.2) (fun x hx => hs.gu hx) (fun x y hx hy e => g_inj hs.pu (by rw [hs.eq]; exact hx) (by rw [hs.eq]; exact hy) e) (fun x hx => ?_)
  have x1 := hs.gr hx
  have x2 := hs.gu x1
  have x3 := hs.ir x2
  have y1 := hs.gu hx
  rw [g_arnd hs hx, g_arnd h0 (by rw [(sf_lt hs 83).2]; exact y1)]
  show _ = ix s.1 (ix (inv s.2) (g s.1 (g (inv s.2) (g s.2 x))))
  rw [giu hs y1, ixu hs hx, ix_inv hs.pu (by rw [hs.eq]; exact x1), gux hs x3]
 ·refine key (g s.1) (fun x hx => hs.gr hx) ir (fun x hx => ?_)
  have x1 := hs.gr hx
  have x2 := hs.gu x1
  have x3 := hs.ir x2
  rw [g_arnd hs hx, g_arnd h0 (by rw [(sf_lt hs 115).2]; exact x1)]
  show _ = ix (inv s.1) (ix s.2 (g (inv s.1) (g s.2 (g s.1 x))))
  rw [gir hs x2, ix_inv hs.pr (hs.iu x3)]
theorem angL_len (s : List Nat × List Nat) : (angL s).length = (cycles (arnd s.1 s.2)).length := by unfold angL; rw [sortD_len, List.length_map]
theorem ang_le {s : List Nat × List Nat} (hs : Sf s.1 s.2) : ∀ x ∈ (cycles (arnd s.1 s.2)).map List.length, x ≤ 24 := by
 intro x hx
 obtain ⟨c, hc, rfl⟩ := List.mem_map.mp hx
 exact cycle_len (isP_arnd hs) (by rw [arnd_len]; exact hs.le) c hc
theorem impl_angles {s : List Nat × List Nat} (hs : Sf s.1 s.2) : Ev (fun k => Z35.f k (I s.1) (I s.2)) (I (angL s)) := by
 have h24 := cycles_len (p := arnd s.1 s.2) (by rw [arnd_len]; exact hs.le)
 have hle := ang_le hs
 unfold Z35.f angL
 refine Ev.bind (impl_corners hs) ?_
 generalize cycles (arnd s.1 s.2) = C at h24 hle
 have H : ∀ d j : Nat, j + d = C.length → Ev (fun k => Z35.l0 k (I ((C.take j).map List.length)) (I2 C) (C.length : Int) (j : Int)) (I (sortD (C.map List.length))) := by
  intro d
  induction d with
  | zero =>
   intro j hj
   obtain rfl : j = C.length := by omega
   refine ev_succ ?_
   have c1 : ¬ ((C.length : Int) < (C.length : Int)) := by omega
   have e : Z0.f (I (C.map List.length)) = some (I (sortD (C.map List.length))) := by
    unfold Z0.f
    have e1 : (I (C.map List.length)).map Int.toNat = C.map List.length := N_I _
    have e2 : ∀ x ∈ I (C.map List.length), 0 ≤ x ∧ x ≤ 4611686018427387904 := by
     intro x hx
     obtain ⟨y, hy, rfl⟩ := List.mem_map.mp hx
     have := hle y hy
     show 0 ≤ (y : Int) ∧ (y : Int) ≤ 4611686018427387904
     omega
    rw [if_pos ⟨e2, by rw [I_len, List.length_map]; omega⟩, e1]
    rfl
   simp only [Z35.l0, c1, if_false, List.take_length, e, Option.bind_some]
   exact Ev.now _
  | succ d ih =>
   intro j hj
   have hjl : j < C.length := by omega
   have c1 : (j : Int) < (C.length : Int) := by omega
   have c2 : (0 : Int) ≤ (j : Int) := by omega
   have c4 : rd_L5 (I2 C) (j : Int) = I (C[j]) := rdL_I2 C j hjl
   have c5 : (I ((C.take j).map List.length)).length < 17592186044416 := by rw [I_len, List.length_map, List.length_take]; omega
   have c6 : I ((C.take j).map List.length) ++ [((C[j].length : Nat) : Int)] = I ((C.take (j + 1)).map List.length) := by
    rw [I_snoc, ← List.take_append_getElem hjl, List.map_append]
    rfl
   have c3 := w64s j (by omega)
   refine ev_succ ?_
   simp only [Z35.l0, c1, c2, c3, c4, c5, c6, I2_len, I_len', if_true]
   exact ih (j + 1) (by omega)
 have key := H C.length 0 (Nat.zero_add _)
 rw [← I2_len C] at key
 exact key
theorem impl_genus {r u : List Nat} (hs : Sf r u) : Ev (fun k => Z46.f k (I r) (I u)) (genusI r.length (cycles (arnd r u)).length) := by
 unfold Z46.f
 have h0 := surfB_I.mpr hs
 refine Ev.bind (impl_surf _ _) ?_
 simp only [h0, if_true]
 refine Ev.bind (count_sq hs) (Ev.bind (impl_corners hs) ?_)
 rw [I2_len]
 exact Ev.now _
def strL (s : List Nat × List Nat) : List Nat := ((angL s).filter (fun a => decide (1 < a))).map (fun a => a - 1)
theorem impl_strat {s : List Nat × List Nat} (hs : Sf s.1 s.2) : Ev (fun k => Z30.f k (I s.1) (I s.2)) (I (strL s)) := by
 have h24 := cycles_len (p := arnd s.1 s.2) (by rw [arnd_len]; exact hs.le)
 rw [← angL_len] at h24
 have hle : ∀ x ∈ angL s, x ≤ 24 := fun x hx => ang_le hs x ((sortD_perm _).mem_iff.mp hx)
 unfold Z30.f strL
 refine Ev.bind (impl_angles hs) ?_
 generalize angL s = C at h24 hle
 have H : ∀ d j : Nat, j + d = C.length → Ev (fun k => Z30.l0 k (I (((C.take j).filter (fun a => decide (1 < a))).map (fun a => a - 1))) (I C) (C.length : Int) (j : Int)) (I ((C.filter (fun a => decide (1 < a))).map (fun a => a - 1))) := by
  intro d
  induction d with
  | zero =>
   intro j hj
   obtain rfl : j = C.length := by omega
   refine ev_succ ?_
   have c1 : ¬ ((C.length : Int) < (C.length : Int)) := by omega
   simp only [Z30.l0, c1, if_false, List.take_length]
   exact Ev.now _
  | succ d ih =>
   intro j hj
   have hjl : j < C.length := by omega
   have hm := hle _ (g_mem hjl)
   have c1 : (j : Int) < (C.length : Int) := by omega
   have c2 : (0 : Int) ≤ (j : Int) := by omega
   have c5 : (I (((C.take j).filter (fun a => decide (1 < a))).map (fun a => a - 1))).length < 17592186044416 := by
    rw [I_len, List.length_map]
    have := List.length_filter_le (fun a => decide (1 < a)) (C.take j)
    rw [List.length_take] at this
    omega
   have c3 := w64s j (by omega)
   have e0 : C.take (j + 1) = C.take j ++ [g C j] := by rw [g_get hjl, List.take_append_getElem hjl]
   have key := ih (j + 1) (by omega)
   rw [e0, List.filter_append, List.map_append] at key
   refine ev_succ ?_
   by_cases h : 1 < g C j
   ·have h' : ((g C j : Nat) : Int) > 1 := by omega
    have c6 : wrap64 (((g C j : Nat) : Int) - 1) = ((g C j - 1 : Nat) : Int) := by rw [w64 (by omega) (by omega)]; omega
    have e1 : ([g C j].filter (fun a => decide (1 < a))).map (fun a => a - 1) = [g C j - 1] := by simp [h]
    rw [e1] at key
    simp only [Z30.l0, c1, c2, c3, c5, c6, rdI, I_len', I_snoc, h', if_true]
    exact key
   ·have h' : ¬ ((g C j : Nat) : Int) > 1 := by omega
    have e1 : ([g C j].filter (fun a => decide (1 < a))).map (fun a => a - 1) = [] := by simp [h]
    rw [e1, List.append_nil] at key
    simp only [Z30.l0, c1, c2, c3, rdI, I_len', h', if_true, if_false]
    exact key
 have key := H C.length 0 (Nat.zero_add _)
 rw [← I_len C] at key
 exact key
theorem impl_syms {s : List Nat × List Nat} (hs : Sf s.1 s.2) : Ev (fun k => Z3.f k (I s.1) (I s.2)) ((symN s : Nat) : Int) := by
 have hle := hs.le
 have heq := hs.eq
 unfold Z3.f
 refine Ev.bind (impl_canon hs) (Ev.bind (impl_named hs) ?_)
 have H : ∀ d i : Nat, i + d = s.1.length → Ev (fun k => Z3.l0 k ((((List.range i).filter (fun i => decide (rS s.1 s.2 i = canS s.1 s.2))).length : Nat) : Int) (namedL s.1 s.2 s.1.length) (s.1.length : Int) (i : Int) (I (canS s.1 s.2).1) (I (canS s.1 s.2).2)) ((symN s : Nat) : Int) := by
  intro d
  induction d with
  | zero =>
   intro i hi
   obtain rfl : i = s.1.length := by omega
   refine ev_succ ?_
   have c1 : ¬ ((s.1.length : Int) < (s.1.length : Int)) := by omega
   simp only [Z3.l0, c1, if_false]
   exact Ev.now _
  | succ d ih =>
   intro i hi
   have hil : i < s.1.length := by omega
   have c1 : (i : Int) < (s.1.length : Int) := by omega
   have c2 : (0 : Int) ≤ (i : Int) := by omega
   have c3 := w64s i (by omega)
   have lr := rS_len (r := s.1) (u := s.2) i
   have e := impl_same (rS s.1 s.2 i) (canS s.1 s.2) (by rw [lr.1]; omega) (by rw [lr.2]; omega)
   have key := ih (i + 1) (by omega)
   rw [List.range_succ, List.filter_append, List.length_append] at key
   have hc : ((List.range i).filter (fun i => decide (rS s.1 s.2 i = canS s.1 s.2))).length ≤ i := by
    have := List.length_filter_le (fun i => decide (rS s.1 s.2 i = canS s.1 s.2)) (List.range i)
    rwa [List.length_range] at this
   refine ev_succ ?_
   simp only [Z3.l0, c1, c2, c3, namedL_len, rd_named hil, if_true]
   refine Ev.bind e ?_
   have c4 := w64s ((List.range i).filter (fun i => decide (rS s.1 s.2 i = canS s.1 s.2))).length (by omega)
   by_cases h : rS s.1 s.2 i = canS s.1 s.2
   ·have e1 : ([i].filter (fun i => decide (rS s.1 s.2 i = canS s.1 s.2))).length = 1 := by simp [h]
    rw [e1] at key
    rw [decide_eq_true h]
    simp only [c4, if_true]
    exact key
   ·have e1 : ([i].filter (fun i => decide (rS s.1 s.2 i = canS s.1 s.2))).length = 0 := by simp [h]
    rw [e1, Nat.add_zero] at key
    rw [decide_eq_false h]
    simp only [Bool.false_eq_true, if_false]
    exact key
 have key := H s.1.length 0 (Nat.zero_add _)
 rw [namedL_len]
 exact key
open Classical in
theorem turn_of {s : List Nat × List Nat} (hs : Sf s.1 s.2) {im : Nat} {t : List Nat} (tl : t.length = s.1.length) (t0 : g t 0 = im) (tu : ∀ b, TurnP s.1 s.2 b → g b 0 = im → t = b) : turnB (I s.1) (I s.2) (I t) = decide (∃ f, Is s (neg s) f ∧ f 0 = im) := by
 rw [Bool.eq_iff_iff, decide_eq_true_iff]
 constructor
 ·intro h
  obtain ⟨r', u', a', e1, e2, e3, _, h1, h2, h3⟩ := turn_nat h
  have e1 := I_inj e1
  have e2 := I_inj e2
  have e3 := I_inj e3
  subst e1 e2 e3
  refine ⟨g t, ⟨(sf_neg hs).2, fun x hx => ?_, fun x y hx hy e => g_inj h1 (by rw [tl]; exact hx) (by rw [tl]; exact hy) e, fun x hx => ?_, fun x hx => ?_⟩, t0⟩
  ·have := g_lt h1 (i := x) (by rw [tl]; exact hx)
   rw [tl] at this
   exact this
  ·have hlt := g_lt h1 (i := x) (by rw [tl]; exact hx)
   rw [tl] at hlt
   show _ = g (inv s.1) _
   rw [gir hs hlt]
   exact (h3 x (by rw [tl]; exact hx)).1
  ·have hlt := g_lt h1 (i := x) (by rw [tl]; exact hx)
   rw [tl] at hlt
   show _ = g (inv s.2) _
   rw [giu hs hlt]
   exact (h3 x (by rw [tl]; exact hx)).2
 ·rintro ⟨f, a, f0⟩
  have hP := isP_tab a.lt a.inj
  have hT : TurnP s.1 s.2 (tab s.1.length f) := ⟨tab_len _ _, hP, fun i hi => by
   rw [tab_len] at hi
   rw [g_tab (hs.gr hi), g_tab (hs.gu hi), g_tab hi]
   exact ⟨negr hs a hi, negu hs a hi⟩⟩
  have e := tu _ hT (by rw [g_tab hs.pos]; exact f0)
  rw [e, turnB_mk hs hP (tab_len _ _)]
  exact decide_eq_true hT.t
theorem impl_turns {s : List Nat × List Nat} (hs : Sf s.1 s.2) : ∃ l, l.length = ledN s (neg s) 0 ∧ Ev (fun k => Z48.f k (I s.1) (I s.2)) l := by
 have hle := hs.le
 have h0 := surfB_I.mpr hs
 classical
 have H : ∀ (d i : Nat) (acc : List (List Int)), i + d = s.1.length → acc.length = ((List.range i).filter (fun i => decide (∃ f, Is s (neg s) f ∧ f 0 = i))).length → ∃ l, l.length = ((List.range s.1.length).filter (fun i => decide (∃ f, Is s (neg s) f ∧ f 0 = i))).length ∧ Ev (fun k => Z48.l0 k acc (s.1.length : Int) (i : Int) (I s.1) (I s.2)) l := by
  intro d
  induction d with
  | zero =>
   intro i acc hi ha
   obtain rfl : i = s.1.length := by omega
   refine ⟨acc, ha, ev_succ ?_⟩
   have c1 : ¬ ((s.1.length : Int) < (s.1.length : Int)) := by omega
   simp only [Z48.l0, c1, if_false]
   exact Ev.now _
  | succ d ih =>
   intro i acc hi ha
   have hil : i < s.1.length := by omega
   have c1 : (i : Int) < (s.1.length : Int) := by omega
   have c3 := w64s i (by omega)
   obtain ⟨t, tl, t0, tu, te⟩ := impl_turnTo_ev hs hil
   have e2 := turn_of hs tl t0 tu
   have hc : ((List.range i).filter (fun i => decide (∃ f, Is s (neg s) f ∧ f 0 = i))).length ≤ i := by
    have := List.length_filter_le (fun i => decide (∃ f, Is s (neg s) f ∧ f 0 = i)) (List.range i)
    rwa [List.length_range] at this
   by_cases h : ∃ f, Is s (neg s) f ∧ f 0 = i
   ·obtain ⟨l, l1, l2⟩ := ih (i + 1) (acc ++ [I t]) (by omega) (by rw [List.range_succ, List.filter_append, List.length_append, List.length_append, ha]; simp [h])
    refine ⟨l, l1, ev_succ ?_⟩
    have c5 : acc.length < 5864062014805 := by omega
    rw [decide_eq_true h] at e2
    simp only [Z48.l0, c1, if_true]
    refine Ev.bind te (Ev.bind (impl_turn _ _ _) ?_)
    rw [e2]
    simp only [c3, c5, if_true]
    exact l2
   ·obtain ⟨l, l1, l2⟩ := ih (i + 1) acc (by omega) (by rw [List.range_succ, List.filter_append, List.length_append, ha]; simp [h])
    refine ⟨l, l1, ev_succ ?_⟩
    rw [decide_eq_false h] at e2
    simp only [Z48.l0, c1, if_true]
    refine Ev.bind te (Ev.bind (impl_turn _ _ _) ?_)
    rw [e2]
    simp only [c3, Bool.false_eq_true, if_false]
    exact l2
 obtain ⟨l, l1, l2⟩ := H s.1.length 0 [] (Nat.zero_add _) rfl
 refine ⟨l, l1, ?_⟩
 unfold Z48.f
 refine Ev.bind (impl_surf _ _) ?_
 simp only [h0, I_len', if_true]
 exact l2
structure Alike (s t : List Nat × List Nat) : Prop where
 sf : Sf t.1 t.2
 len : t.1.length = s.1.length
 sym : symN t = symN s
 turn : ledN t (neg t) 0 = ledN s (neg s) 0
 ang : angL t = angL s
theorem alike_rn {s : List Nat × List Nat} (hs : Sf s.1 s.2) (w : ByteArray) : ∀ j, Alike s (rn w s j) := by
 intro j
 induction j with
 | zero => exact ⟨hs, rfl, rfl, rfl, rfl⟩
 | succ j ih =>
  have h := sf_lt ih.sf (bt w (j : Int))
  exact ⟨h.1, h.2.trans ih.len, (symN_lt ih.sf _).trans ih.sym, (turnN_lt ih.sf _).trans ih.turn, (angL_lt ih.sf _).trans ih.ang⟩
theorem impl_iso {s t : List Nat × List Nat} (hs : Sf s.1 s.2) (ht : Sf t.1 t.2) : Ev (fun k => Z7.f k (I s.1) (I s.2) (I t.1) (I t.2)) (decide (canS s.1 s.2 = canS t.1 t.2)) := by
 have h1 := canK_len (r := s.1) (u := s.2) (s.1.length - 1)
 have l1 := hs.le
 have l2 := hs.eq
 unfold Z7.f
 refine Ev.bind (impl_canon hs) (Ev.bind (impl_canon ht) ?_)
 simp only [if_true]
 exact Ev.bind (impl_same (canS s.1 s.2) (canS t.1 t.2) (by unfold canS; rw [h1.1]; omega) (by unfold canS; rw [h1.2]; omega)) (Ev.now _)
theorem impl_half {s : List Nat × List Nat} (hs : Sf s.1 s.2) : Ev (fun k => Z16.f k (I s.1) (I s.2)) (decide (0 < ledN s (neg s) 0)) := by
 unfold Z16.f Z28.f
 have e2 := impl_run (I s.1) (I s.2) (⟨#[83, 83]⟩ : ByteArray) (by decide)
 rw [runP_yes hs (by decide +kernel)] at e2
 have i1 := impl_iso (s := neg s) (t := s) (sf_neg hs).1 hs
 have e : decide (canS (neg s).1 (neg s).2 = canS s.1 s.2) = decide (0 < ledN s (neg s) 0) := by
  rw [decide_eq_decide]
  exact turnN_pos hs
 rw [e] at i1
 refine Ev.bind (Ev.bind e2 ?_) (Ev.now _)
 simp only [if_true]
 exact Ev.bind i1 (Ev.now _)
theorem size_42 (s : ByteArray) : s.data.toList.length = s.size := Array.length_toList
theorem bt_l42 (s : ByteArray) (j : Nat) : bt s (j : Int) = (((s.data.toList)[j]?.getD 0).toNat : Int) := by
 unfold bt
 have e : ((j : Int)).toNat = j := by omega
 have hs := size_42 s
 by_cases h : j < s.size
 ·rw [dif_pos (by rw [e]; exact h)]
  have h' : j < s.data.toList.length := by rw [hs]; exact h
  rw [List.getElem?_eq_getElem h', Option.getD_some]
  congr 1
 ·rw [dif_neg (by rw [e]; exact h), List.getElem?_eq_none (by rw [hs]; omega)]
  rfl
theorem bt_app (x y : ByteArray) (j : Nat) : bt (x ++ y) (j : Int) = if j < x.size then bt x (j : Int) else bt y ((j - x.size : Nat) : Int) := by
 rw [bt_l42, bt_l42, bt_l42, ByteArray.data_append, Array.toList_append, List.getElem?_append, size_42]
 split <;> rfl
theorem word_draw (b : List Int) (hb : b.length ≤ 1000000000) (i h : Int) (hi : 0 ≤ i) (hl : i ≤ b.length) : ∃ w i' h', wordB w = true ∧ w.size ≤ 6 ∧ Ev (fun k => Z54.f k b i h 6) (w, i', h') := by
 have H : ∀ (d : Nat) (w : ByteArray) (i h : Int), w.size + d ≤ 6 → (∀ j, j < w.size → letB (bt w (j : Int)) = true) → 0 ≤ i → i ≤ (b.length : Int) → ∃ w' i' h', wordB w' = true ∧ w'.size ≤ 6 ∧ Ev (fun k => Z54.l0 k w (d : Int) b i h) (w', i', h') := by
  intro d
  induction d with
  | zero =>
   intro w i h hw hj i0 i1
   refine ⟨w, i, h, ?_, by omega, ev_succ ?_⟩
   ·unfold wordB
    exact decide_eq_true ⟨hj, by omega⟩
   ·have c1 : ¬ (((0 : Nat) : Int) > 0) := by omega
    simp only [Z54.l0, c1, if_false]
    exact Ev.now _
  | succ d ih =>
   intro w i h hw hj i0 i1
   obtain ⟨x, i', h', e, x0, x1, j0, j1⟩ := below_draw b i h 5 i0 i1 hb (by omega) (by omega)
   obtain ⟨n, rfl⟩ : ∃ n : Nat, x = n := ⟨x.toNat, by omega⟩
   have hn : n < 5 := by omega
   have e2 : ∃ c : ByteArray, c.size = 1 ∧ letB (bt c (0 : Nat)) = true ∧ rdOf ByteArray.empty ([(⟨#[84]⟩ : ByteArray), (⟨#[83]⟩ : ByteArray), (⟨#[116]⟩ : ByteArray), (⟨#[115]⟩ : ByteArray), (⟨#[84]⟩ : ByteArray)]) (n : Int) = c := by
    match n, hn with
    | 0, _ => exact ⟨⟨#[84]⟩, rfl, by decide +kernel, rfl⟩
    | 1, _ => exact ⟨⟨#[83]⟩, rfl, by decide +kernel, rfl⟩
    | 2, _ => exact ⟨⟨#[116]⟩, rfl, by decide +kernel, rfl⟩
    | 3, _ => exact ⟨⟨#[115]⟩, rfl, by decide +kernel, rfl⟩
    | 4, _ => exact ⟨⟨#[84]⟩, rfl, by decide +kernel, rfl⟩
   obtain ⟨c, c1, c2, c3⟩ := e2
   have hsz : (w ++ c).size = w.size + 1 := by rw [ByteArray.size_append, c1]
   obtain ⟨w', i2, h2, k0, k1, k2⟩ := ih (w ++ c) i' h' (by rw [hsz]; omega) (fun j hjl => by
    rw [hsz] at hjl
    rw [bt_app]
    by_cases hjw : j < w.size
    ·rw [if_pos hjw]; exact hj j hjw
    ·rw [if_neg hjw]
     obtain rfl : j = w.size := by omega
     rw [Nat.sub_self]
     exact c2) j0 j1
   refine ⟨w', i2, h2, k0, k1, ev_succ ?_⟩
   have c4 : ((d + 1 : Nat) : Int) > 0 := by omega
   have c5 : w.size + c.size ≤ 9223372036854775807 := by omega
   have c6 : wrap64 (((d + 1 : Nat) : Int) - 1) = (d : Int) := by rw [w64 (by omega) (by omega)]; omega
   have e3 : Z62.f b i h ([(⟨#[84]⟩ : ByteArray), (⟨#[83]⟩ : ByteArray), (⟨#[116]⟩ : ByteArray), (⟨#[115]⟩ : ByteArray), (⟨#[84]⟩ : ByteArray)]) = some (c, i', h') := by
    unfold Z62.f
    have e' : Z42.f b i h (([(⟨#[84]⟩ : ByteArray), (⟨#[83]⟩ : ByteArray), (⟨#[116]⟩ : ByteArray), (⟨#[115]⟩ : ByteArray), (⟨#[84]⟩ : ByteArray)] : List ByteArray).length : Int) = some ((n : Int), i', h') := e
    rw [e']
    have q1 : (n : Int) < (([(⟨#[84]⟩ : ByteArray), (⟨#[83]⟩ : ByteArray), (⟨#[116]⟩ : ByteArray), (⟨#[115]⟩ : ByteArray), (⟨#[84]⟩ : ByteArray)] : List ByteArray).length : Int) := by show (n : Int) < ((5 : Nat) : Int); omega
    rw [Option.bind_some]
    show (if 0 ≤ (n : Int) then (if (n : Int) < _ then _ else none) else none) = _
    rw [if_pos x0, if_pos q1, c3]
   simp only [Z54.l0, c4, e3, c5, c6, if_true, Option.bind_some]
   exact k2
 obtain ⟨x, i', h', e, x0, x1, j0, j1⟩ := below_draw b i h 7 hi hl hb (by omega) (by omega)
 obtain ⟨n, rfl⟩ : ∃ n : Nat, x = n := ⟨x.toNat, by omega⟩
 obtain ⟨w, i2, h2, k0, k1, k2⟩ := H n ⟨#[]⟩ i' h' (by show 0 + n ≤ 6; omega) (fun j hj => absurd hj (by show ¬ j < 0; omega)) j0 j1
 refine ⟨w, i2, h2, k0, k1, ?_⟩
 unfold Z54.f
 have e7 : wrap64 ((6 : Int) + 1) = 7 := by decide +kernel
 rw [e7, e]
 simp only [Option.bind_some]
 exact k2
theorem makeWord_ev (b : List Int) (hb : b.length ≤ 1000000000) (n : Nat) (hn : n ≤ 1000) : ∃ w, wordB w = true ∧ w.size ≤ 6 ∧ Ev (fun k => Z41.f k b (n : Int)) w := by
 obtain ⟨i, h, i0, i1, e⟩ := skip_draw b hb n hn
 obtain ⟨w, i', h', w1, w2, w3⟩ := word_draw b hb i h i0 i1
 refine ⟨w, w1, w2, ?_⟩
 unfold Z41.f
 exact Ev.bind e (Ev.bind w3 (Ev.now _))
end Go.Proofs.Ytoijcallajegfaa.M
end
section
/- The law of what words keep answers true. No conditions. -/
namespace Go.Proofs.Ytoijcallajegfaa.Pure
set_option linter.unusedVariables false
set_option linter.unusedSimpArgs false
open Go.RowKit Go.Proofs.YtoijcallajegfaaW.PrintWords Go.Proofs.YtoijcallajegfaaW.PrintLast Go.Proofs.YtoijcallajegfaaW.PrintMore Go.Proofs.Ytoijcallajegfaa.A Go.Proofs.Ytoijcallajegfaa.M
theorem FnKept (b : List Int) (hb : b.length ≤ maxLen) (_ : ∀ x ∈ b, (Lit.int .u8 x).wf = true) : ∃ k, Z59.f k b = some true := by
 refine Ev.rounds ?_
 unfold Z59.f
 by_cases h : (b.length : Int) > 1048576
 ·simp only [h, if_true]
  exact Ev.now _
 ·simp only [h, if_false]
  obtain ⟨r, u, hs, hr12, e1⟩ := makeSurf_ev b (by omega)
  obtain ⟨w, hw, hw6, e2⟩ := makeWord_ev b (by omega) 40 (by omega)
  have e3 := impl_run (I r) (I u) w (by omega)
  rw [runP_yes (s := (r, u)) hs hw] at e3
  have al := alike_rn (s := (r, u)) hs w w.size
  refine Ev.bind e1 (Ev.bind e2 (Ev.bind e3 ?_))
  generalize rn w (r, u) w.size = x at al
  have h0 := surfB_I.mpr al.sf
  simp only [if_true]
  refine Ev.bind (impl_surf _ _) ?_
  simp only [h0, Bool.not_true]
  refine ev_succ ?_
  simp only [Z59.j0, Bool.false_eq_true, if_false]
  have hx24 := al.sf.le
  have a24 : (angL (r, u)).length ≤ 24 := by rw [angL_len]; exact cycles_len (by rw [arnd_len]; exact hs.le)
  have es : strL x = strL (r, u) := by unfold strL; rw [al.ang]
  have eg : (cycles (arnd x.1 x.2)).length = (cycles (arnd r u)).length := by rw [← angL_len x, al.ang, angL_len]
  have s24 : (strL (r, u)).length ≤ 24 := by
   unfold strL
   rw [List.length_map]
   exact Nat.le_trans (List.length_filter_le _ _) a24
  refine Ev.bind (count_sq al.sf) ?_
  have hl : ((x.1.length : Nat) : Int) = ((I r).length : Int) := by rw [I_len, al.len]
  simp only [hl, if_true]
  have q1 := impl_angles al.sf
  rw [al.ang] at q1
  refine Ev.bind q1 (Ev.bind (impl_angles (s := (r, u)) hs) (Ev.bind (law_same _ (by rw [I_len]; omega)) ?_))
  simp only [if_true]
  have q2 := impl_strat al.sf
  rw [es] at q2
  refine Ev.bind q2 (Ev.bind (impl_strat (s := (r, u)) hs) (Ev.bind (law_same _ (by rw [I_len]; omega)) ?_))
  simp only [if_true]
  have q3 := impl_genus al.sf
  rw [eg, al.len] at q3
  refine Ev.bind q3 (Ev.bind (impl_genus hs) ?_)
  simp only [if_true]
  have q4 := impl_syms al.sf
  rw [al.sym] at q4
  refine Ev.bind q4 (Ev.bind (impl_syms (s := (r, u)) hs) ?_)
  simp only [if_true]
  have q5 := impl_half al.sf
  rw [al.turn] at q5
  refine Ev.bind q5 (Ev.bind (impl_half (s := (r, u)) hs) ?_)
  simp only [beq_self_eq_true, if_true]
  obtain ⟨l1, k1, t1⟩ := impl_turns al.sf
  obtain ⟨l2, k2, t2⟩ := impl_turns (s := (r, u)) hs
  have e : l1.length = l2.length := by rw [k1, k2, al.turn]
  refine Ev.bind t1 (Ev.bind t2 ?_)
  simp only [e, beq_self_eq_true]
  exact Ev.now _
end Go.Proofs.Ytoijcallajegfaa.Pure
end
