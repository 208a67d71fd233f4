/- Lemmas for the row FnClasses: the program's functions told as plain functions, and plain mathematics. No conditions. -/
import Derived.Test.YtoijcallajegfaaQFnClasses4
section
/- The orbits of all surfaces with few squares: what the program lists. No conditions. -/
namespace Go.Proofs.Ytoijcallajegfaa.M
set_option linter.unusedVariables false
set_option linter.unusedSimpArgs false
open Go.RowKit Go.Proofs.YtoijcallajegfaaW.PrintWords Go.Proofs.YtoijcallajegfaaW.PrintLast Go.Proofs.YtoijcallajegfaaW.PrintMore Go.Proofs.Ytoijcallajegfaa.A
abbrev PC : Type := List Nat × List Nat
def orbL (s : PC) : List PC := match orbC s with | some o => o.L | none => []
def owP : List PC → List (List PC) → List (List PC)
  | [], outs => outs
  | s :: ss, outs => if outs.any (fun l => decide (s ∈ l)) then owP ss outs else owP ss (outs ++ [insAll [] (orbL s)])
def clsN : Nat → List (List PC)
  | 1 => [[([0], [0])]]
  | 2 => [[([0, 1], [1, 0]), ([1, 0], [0, 1]), ([1, 0], [1, 0])]]
  | 3 => [[([0, 1, 2], [1, 2, 0]), ([1, 2, 0], [0, 1, 2]), ([1, 2, 0], [1, 2, 0]), ([1, 2, 0], [2, 0, 1])], [([0, 2, 1], [1, 0, 2]), ([0, 2, 1], [1, 2, 0]), ([1, 2, 0], [0, 2, 1])]]
  | 4 => [[([0, 1, 2, 3], [1, 2, 3, 0]), ([1, 0, 3, 2], [2, 3, 1, 0]), ([1, 2, 3, 0], [0, 1, 2, 3]), ([1, 2, 3, 0], [1, 2, 3, 0]), ([1, 2, 3, 0], [2, 3, 0, 1]), ([1, 3, 0, 2], [2, 0, 3, 1])], [([0, 1, 3, 2], [1, 2, 0, 3]), ([0, 1, 3, 2], [1, 2, 3, 0]), ([0, 2, 3, 1], [1, 0, 2, 3]), ([0, 2, 3, 1], [1, 2, 3, 0]), ([0, 2, 3, 1], [1, 3, 0, 2]), ([1, 2, 3, 0], [0, 1, 3, 2]), ([1, 2, 3, 0], [0, 2, 3, 1]), ([1, 2, 3, 0], [0, 3, 1, 2]), ([1, 2, 3, 0], [1, 3, 0, 2])], [([0, 2, 1, 3], [1, 0, 3, 2]), ([0, 2, 1, 3], [1, 3, 0, 2]), ([1, 0, 3, 2], [0, 2, 1, 3]), ([1, 0, 3, 2], [1, 2, 3, 0]), ([1, 2, 3, 0], [0, 3, 2, 1]), ([1, 2, 3, 0], [1, 0, 3, 2])], [([0, 2, 3, 1], [1, 0, 3, 2]), ([0, 2, 3, 1], [1, 2, 0, 3]), ([0, 2, 3, 1], [1, 3, 2, 0]), ([1, 0, 3, 2], [0, 2, 3, 1])], [([1, 0, 3, 2], [2, 3, 0, 1])]]
  | _ => []
theorem cls_tab3 : ∀ n : Fin 4, owP (tabN n.val) [] = clsN n.val := by decide +kernel
theorem cls_tab4 : owP (tabN 4) [] = clsN 4 := by decide +kernel
theorem cls_tab {n : Nat} (h4 : n ≤ 4) : owP (tabN n) [] = clsN n := by
  rcases Nat.lt_or_ge n 4 with h | h
  · exact cls_tab3 ⟨n, h⟩
  · obtain rfl : n = 4 := by omega
    exact cls_tab4
theorem tab_len65 : ∀ n : Fin 5, ∀ s ∈ tabN n.val, s.1.length = n.val ∧ s.2.length = n.val := by decide +kernel
theorem LS_oS (l : List PC) : LS l = l.map oS := rfl
theorem insS_le (l : List PC) (s : PC) : (insS l s).length ≤ l.length + 1 := by
  induction l with
  | nil => simp [insS]
  | cons x l ih =>
    unfold insS
    split
    · simp
    · split
      · simp
      · simp only [List.length_cons]; omega
theorem insAll_le : ∀ (ss l : List PC), (insAll l ss).length ≤ l.length + ss.length
  | [], l => by simp [insAll]
  | s :: ss, l => by
    have h1 := insAll_le ss (insS l s)
    have h2 := insS_le l s
    show (insAll (insS l s) ss).length ≤ l.length + (ss.length + 1)
    omega
def okOuts (outs : List (List PC)) : Prop := ∀ l ∈ outs, l.length ≤ 26 ∧ ∀ x ∈ l, Sf x.1 x.2
theorem idxK_ev (x : PC) : ∀ (outs : List (List PC)) (i : Nat), okOuts outs → ∃ j : Int, (0 ≤ j ↔ outs.any (fun l => decide (x ∈ l)) = true) ∧ Ev (fun k => idxK k (I x.1) (I x.2) (outs.map LS) i) j := by
  intro outs
  induction outs with
  | nil => intro i _; exact ⟨-1, by simp, Ev.now _⟩
  | cons l outs ih =>
    intro i ho
    have hl := ho l (by simp)
    have h1 := oidx_ev hl.2 (by omega) x
    rw [← LS_oS] at h1
    by_cases hm : x ∈ l
    · have hf : 0 ≤ fi l x := by
        have := fi_neg (L := l) (x := x)
        apply Classical.byContradiction
        intro h
        exact this.mp (by omega) hm
      refine ⟨(i : Int), ?_, ?_⟩
      · simp [hm]
      · rw [List.map_cons]
        unfold idxK
        refine Ev.bind h1 ?_
        simp only [hf, if_true]
        exact Ev.now _
    · have hf : ¬ 0 ≤ fi l x := by
        have := (fi_neg (L := l) (x := x)).mpr hm
        omega
      obtain ⟨j, h2, h3⟩ := ih (i + 1) (fun l' hl' => ho l' (by simp [hl']))
      refine ⟨j, ?_, ?_⟩
      · rw [h2, List.any_cons, decide_eq_false hm, Bool.false_or]
      · rw [List.map_cons]
        unfold idxK
        refine Ev.bind h1 ?_
        simp only [hf, if_false]
        exact h3
theorem orbL_of {s : PC} {o : PO} (h : orbC s = some o) : orbL s = o.L := by unfold orbL; rw [h]
theorem ow_loop {n : Nat} (h1 : 1 ≤ n) (h4 : n ≤ 4) : ∀ (rest pre : List PC), pre ++ rest = tabN n → ∀ outs : List (List PC), okOuts outs → outs.length ≤ pre.length → Ev (fun k => impl_OrbitsWith.l0 k (outs.map LS) (LS (tabN n)) ((LS (tabN n)).length : Int) (pre.length : Int)) ((owP rest outs).map LS) := by
  have hle := (tabN_ok h4).1
  intro rest
  induction rest with
  | nil =>
    intro pre hp outs ho hl
    rw [List.append_nil] at hp
    have c1 : ¬ (pre.length : Int) < ((LS (tabN n)).length : Int) := by rw [LS_len, ← hp]; omega
    refine ev_succ ?_
    simp only [impl_OrbitsWith.l0, c1, if_false, owP]
    exact Ev.now _
  | cons s rest ih =>
    intro pre hp outs ho hl
    have hlen : pre.length + (rest.length + 1) = (tabN n).length := by rw [← hp]; simp
    have c1 : (pre.length : Int) < ((LS (tabN n)).length : Int) := by rw [LS_len]; omega
    have c2 : (0 : Int) ≤ (pre.length : Int) := by omega
    have hrd : rd_T33 (LS (tabN n)) (pre.length : Int) = ⟨I s.1, I s.2⟩ := by rw [← hp]; exact LS_mid pre s rest
    have hs : s ∈ tabN n := by rw [← hp]; simp
    obtain ⟨j, hj, e1⟩ := idxK_ev s outs 0 ho
    have e1' : Ev (fun k => indexK k (outs.map LS) (I s.1) (I s.2)) j := by
      unfold indexK
      have c3 : (outs.map LS).length < 4611686018427387904 := by rw [List.length_map]; omega
      simp only [c3, if_true]
      exact e1
    have hp' : (pre ++ [s]) ++ rest = tabN n := by rw [List.append_assoc]; exact hp
    have hpl : (pre ++ [s]).length = pre.length + 1 := by simp
    by_cases hk : 0 ≤ j
    · have key := ih (pre ++ [s]) hp' outs ho (by omega)
      rw [hpl] at key
      have ek : owP (s :: rest) outs = owP rest outs := by rw [owP, if_pos (hj.mp hk)]
      rw [ek]
      have c5 := w64s pre.length (by omega)
      refine ev_succ ?_
      simp only [impl_OrbitsWith.l0, c1, c2, hrd, if_true]
      refine Ev.bind e1' ?_
      simp only [hk, c5, if_true]
      exact key
    · have hsf := (tabN_ok h4).2 s hs
      have hcan : canS s.1 s.2 = s := can_tab ⟨n, by omega⟩ s hs
      obtain ⟨o, hO⟩ := orbt_ok h4 hs
      have hr := orbR_few hsf (o := o) (by rw [hcan]; exact hO.eq)
      have e2 := implOrb_ev (I s.1) (I s.2)
      rw [hr] at e2
      have e2' : Ev (fun k => impl_OrbitOf.f k (I s.1) (I s.2)) (LS o.L, true) := e2
      have ol := hO.le
      have e3 := sortSurf_f (n := n) (by omega) (l := o.L) (fun x hx => tab_len65 ⟨n, by omega⟩ x (hO.tab x hx)) (by omega)
      have ek : owP (s :: rest) outs = owP rest (outs ++ [insAll [] o.L]) := by rw [owP, if_neg (fun h => hk (hj.mpr h)), orbL_of hO.eq]
      have ho' : okOuts (outs ++ [insAll [] o.L]) := by
        intro l hl'
        rcases List.mem_append.mp hl' with h | h
        · exact ho l h
        · obtain rfl : l = insAll [] o.L := by simpa using h
          have := insAll_le o.L []
          refine ⟨by simp at this; omega, fun x hx => ?_⟩
          rcases (mem_insAll _ _ _).mp hx with h | h
          · cases h
          · exact (tabN_ok h4).2 x (hO.tab x h)
      have key := ih (pre ++ [s]) hp' (outs ++ [insAll [] o.L]) ho' (by rw [hpl]; simp; omega)
      rw [hpl, List.map_append] at key
      rw [ek]
      have c6 : (outs.map LS).length < 5864062014805 := by rw [List.length_map]; omega
      have c5 := w64s pre.length (by omega)
      refine ev_succ ?_
      simp only [impl_OrbitsWith.l0, c1, c2, hrd, if_true]
      refine Ev.bind e1' ?_
      simp only [hk, if_false]
      refine Ev.bind e2' ?_
      simp only [e3, Option.bind_some, c6, c5, if_true]
      exact key
theorem impl_orbits {n : Nat} (h1 : 1 ≤ n) (h4 : n ≤ 4) : Ev (fun k => impl_OrbitsWith.f k (n : Int)) ((clsN n).map LS) := by
  have c1 : ¬ (n : Int) < 1 := by omega
  have c2 : decide ((n : Int) > 4) = false := decide_eq_false (by omega)
  have w := impl_with h1 h4
  rw [surf_tab h1 h4] at w
  unfold impl_OrbitsWith.f
  simp only [c1, c2, if_false]
  refine ev_succ ?_
  simp only [impl_OrbitsWith.j0, Bool.false_eq_true, if_false]
  refine Ev.bind w ?_
  have key := ow_loop h1 h4 (tabN n) [] rfl [] (fun l hl => by cases hl) (Nat.le_refl _)
  rw [cls_tab h4] at key
  exact key
end Go.Proofs.Ytoijcallajegfaa.M
end
section
/- The law of classes answers true. No conditions. -/
namespace Go.Proofs.Ytoijcallajegfaa.Pure
set_option linter.unusedVariables false
set_option linter.unusedSimpArgs false
set_option linter.unusedVariables false
set_option linter.unusedSimpArgs false
open Go.RowKit Go.Proofs.YtoijcallajegfaaW.PrintWords Go.Proofs.YtoijcallajegfaaW.PrintLast Go.Proofs.YtoijcallajegfaaW.PrintMore Go.Proofs.Ytoijcallajegfaa.A Go.Proofs.Ytoijcallajegfaa.M
theorem cls_len : ∀ n : Fin 5, ((clsN n.val).length ≤ 26 ∧ ∀ l ∈ clsN n.val, 1 ≤ l.length ∧ l.length ≤ 26 ∧ ∀ x ∈ l, x ∈ tabN n.val) ∧ ((clsN n.val).map List.length).sum = (tabN n.val).length ∧ (1 ≤ n.val → 0 < (clsN n.val).length) := by decide +kernel
theorem cls_str : ∀ n : Fin 5, ∀ l ∈ clsN n.val, ∀ x ∈ l, strL x = strL (l.getD 0 ([], [])) := by decide +kernel
theorem cls_idx : ∀ n : Fin 5, ∀ l ∈ clsN n.val, (orbL (l.getD 0 ([], []))).length = l.length := by decide +kernel
theorem rdLS {l : List PC} {j : Nat} (h : j < l.length) : rd_T33 (LS l) (j : Int) = ⟨I (l.getD j ([], [])).1, I (l.getD j ([], [])).2⟩ := by
  have := rd_oS h
  rw [LS_oS, this]
  rfl
theorem rdL8 {C pre rest : List (List PC)} {l : List PC} (e : pre ++ l :: rest = C) : rd_L8 (C.map LS) (pre.length : Int) = LS l := by
  unfold rd_L8
  rw [← e, Int.toNat_natCast, List.getD_eq_getElem?_getD, List.getElem?_map, List.getElem?_append_right (Nat.le_refl _), Nat.sub_self]
  rfl
theorem l1_classes {n : Nat} (h4 : n ≤ 4) {l : List PC} (hl : l ∈ clsN n) (x5 i : Int) (outs : List (List S33)) (hR : Ev (fun k => laws_FnClasses.l0 k (n : Int) outs x5 (outs.length : Int) (wrap64 (i + 1))) true) : ∀ d j : Nat, j + d = l.length →
    Ev (fun k => laws_FnClasses.l1 k (n : Int) outs x5 (LS l) (outs.length : Int) i (LS l) ((LS l).length : Int) (j : Int)) true := by
  obtain ⟨⟨_, hln⟩, _⟩ := cls_len ⟨n, by omega⟩
  obtain ⟨hl1, hl2, hlt⟩ := hln l hl
  intro d
  induction d with
  | zero =>
    intro j hj
    have c1 : ¬ (j : Int) < ((LS l).length : Int) := by rw [LS_len]; omega
    refine ev_succ ?_
    simp only [laws_FnClasses.l1, c1, if_false]
    exact hR
  | succ d ih =>
    intro j hj
    have hjl : j < l.length := by omega
    have c1 : (j : Int) < ((LS l).length : Int) := by rw [LS_len]; omega
    have c2 : (0 : Int) ≤ (j : Int) := by omega
    have c4 : (0 : Int) < ((LS l).length : Int) := by rw [LS_len]; omega
    have hm : l.getD j ([], []) ∈ l := by
      rw [List.getD_eq_getElem?_getD, List.getElem?_eq_getElem hjl]
      exact List.getElem_mem hjl
    have hm0 : l.getD 0 ([], []) ∈ l := by
      rw [List.getD_eq_getElem?_getD, List.getElem?_eq_getElem (by omega)]
      exact List.getElem_mem (by omega)
    have s1 := impl_strat ((tabN_ok h4).2 _ (hlt _ hm))
    have s2 := impl_strat ((tabN_ok h4).2 _ (hlt _ hm0))
    rw [cls_str ⟨n, by omega⟩ l hl _ hm] at s1
    have s3 := law_same (I (strL (l.getD 0 ([], [])))) (by
      rw [I_len]
      unfold strL
      rw [List.length_map]
      refine Nat.le_trans (List.length_filter_le _ _) ?_
      have hsf := (tabN_ok h4).2 _ (hlt _ hm0)
      rw [angL_len]
      have h24 := cycles_len (p := arnd (l.getD 0 ([], [])).1 (l.getD 0 ([], [])).2) (by rw [arnd_len]; exact hsf.le)
      omega)
    have e1 := rdLS hjl
    have e0 : rd_T33 (LS l) 0 = ⟨I (l.getD 0 ([], [])).1, I (l.getD 0 ([], [])).2⟩ := rdLS (j := 0) (by omega)
    have c3 := w64s j (by omega)
    refine ev_succ ?_
    simp only [laws_FnClasses.l1, c1, c2, c4, e1, e0, if_true]
    refine Ev.bind s1 (Ev.bind s2 (Ev.bind s3 ?_))
    simp only [if_true, c3]
    exact ih (j + 1) (by omega)
theorem l0_classes {n : Nat} (h1 : 1 ≤ n) (h4 : n ≤ 4) : ∀ (rest pre : List (List PC)), pre ++ rest = clsN n → Ev (fun k => laws_FnClasses.l0 k (n : Int) ((clsN n).map LS) (((pre.map List.length).sum : Nat) : Int) (((clsN n).map LS).length : Int) (pre.length : Int)) true := by
  obtain ⟨⟨hc, hln⟩, hsum, hpos⟩ := cls_len ⟨n, by omega⟩
  have hsum : ((clsN n).map List.length).sum = (tabN n).length := hsum
  have hpos : 0 < (clsN n).length := hpos h1
  have hc : (clsN n).length ≤ 26 := hc
  have htl := (tabN_ok h4).1
  intro rest
  induction rest with
  | nil =>
    intro pre hp
    rw [List.append_nil] at hp
    have c1 : ¬ (pre.length : Int) < (((clsN n).map LS).length : Int) := by rw [List.length_map, ← hp]; omega
    have w := impl_with h1 h4
    rw [surf_tab h1 h4] at w
    refine ev_succ ?_
    simp only [laws_FnClasses.l0, c1, if_false]
    refine Ev.bind w ?_
    have c2 : (((pre.map List.length).sum : Nat) : Int) = ((LS (tabN n)).length : Int) := by rw [LS_len, hp, hsum]
    have c3 : decide ((((clsN n).map LS).length : Int) > 0) = true := decide_eq_true (by rw [List.length_map]; omega)
    simp only [c2, c3, if_true]
    exact Ev.now _
  | cons l rest ih =>
    intro pre hp
    have hl : l ∈ clsN n := by rw [← hp]; simp
    obtain ⟨hl1, hl2, hlt⟩ := hln l hl
    have hlen : pre.length + (rest.length + 1) = (clsN n).length := by rw [← hp]; simp
    have hs : (pre.map List.length).sum + (l.length + (rest.map List.length).sum) = (tabN n).length := by rw [← hsum, ← hp]; simp
    have c1 : (pre.length : Int) < (((clsN n).map LS).length : Int) := by rw [List.length_map]; omega
    have c2 : (0 : Int) ≤ (pre.length : Int) := by omega
    have hrd := rdL8 hp
    have c3 : ¬ ((LS l).length : Int) = 0 := by rw [LS_len]; omega
    have c4 : (0 : Int) < ((LS l).length : Int) := by rw [LS_len]; omega
    have hm0 : l.getD 0 ([], []) ∈ l := by
      rw [List.getD_eq_getElem?_getD, List.getElem?_eq_getElem (by omega)]
      exact List.getElem_mem (by omega)
    have e0 : rd_T33 (LS l) 0 = ⟨I (l.getD 0 ([], [])).1, I (l.getD 0 ([], [])).2⟩ := rdLS (j := 0) (by omega)
    have ht := hlt _ hm0
    have hsf := (tabN_ok h4).2 _ ht
    have hcan : canS (l.getD 0 ([], [])).1 (l.getD 0 ([], [])).2 = l.getD 0 ([], []) := can_tab ⟨n, by omega⟩ _ ht
    obtain ⟨o, hO⟩ := orbt_ok h4 ht
    have hr := orbR_few hsf (o := o) (by rw [hcan]; exact hO.eq)
    have e2 := implIdx_ev (I (l.getD 0 ([], [])).1) (I (l.getD 0 ([], [])).2)
    rw [hr] at e2
    have hol : o.L.length = l.length := by rw [← orbL_of hO.eq]; exact cls_idx ⟨n, by omega⟩ l hl
    have e2' : Ev (fun k => impl_IndexOf.f k (I (l.getD 0 ([], [])).1) (I (l.getD 0 ([], [])).2)) ((LS l).length : Int) := by rw [LS_len, ← hol]; exact e2
    have key := ih (pre ++ [l]) (by rw [List.append_assoc]; exact hp)
    have hpl : (pre ++ [l]).length = pre.length + 1 := by simp
    have hps : ((pre ++ [l]).map List.length).sum = (pre.map List.length).sum + l.length := by simp
    rw [hpl, hps] at key
    have q1 : (pre.map List.length).sum + l.length ≤ 26 := by omega
    have c5 := w64s pre.length (by omega)
    have c6 : wrap64 ((((pre.map List.length).sum : Nat) : Int) + ((LS l).length : Int)) = (((pre.map List.length).sum + l.length : Nat) : Int) := by
      rw [LS_len, w64 (by omega) (by omega)]
      omega
    have c7 : (((LS l).length : Int) != ((LS l).length : Int)) = false := by simp
    refine ev_succ ?_
    simp only [laws_FnClasses.l0, c1, c2, hrd, Option.bind_some, c3, c4, e0, if_true, if_false]
    refine Ev.bind e2' ?_
    simp only [c7]
    refine ev_succ ?_
    simp only [laws_FnClasses.j1, Bool.false_eq_true, if_false, c6]
    refine l1_classes h4 hl _ _ _ ?_ l.length 0 (Nat.zero_add _)
    rw [c5]
    exact key
theorem FnClasses (b : List Int) (hb : b.length ≤ maxLen) (_ : ∀ x ∈ b, (Lit.int .u8 x).wf = true) : ∃ k, laws_FnClasses.f k b = some true := by
  refine Ev.rounds ?_
  unfold laws_FnClasses.f
  by_cases h : (b.length : Int) > 1048576
  · simp only [h, if_true]
    exact Ev.now _
  · simp only [h, if_false, Option.bind_some]
    obtain ⟨x, hx, e1⟩ := num_draw b (by omega) 1 (by omega)
    have hj : Int.tmod (x : Int) 12 = ((x % 12 : Nat) : Int) := (Int.tmod_eq_emod_of_nonneg (by omega)).trans (by omega)
    obtain ⟨n, h1, hn⟩ := dim_tab ⟨x % 12, by omega⟩
    have h4 : n.val ≤ 4 := by omega
    have q1 : (0 : Int) ≤ ((x % 12 : Nat) : Int) := by omega
    have q2 : ((x % 12 : Nat) : Int) < ((([1, 2, 3, 3, 2, 3, 3, 3, 3, 3, 3, 4] : List Int)).length : Int) := by simp; omega
    have hn' : rd ([1, 2, 3, 3, 2, 3, 3, 3, 3, 3, 3, 4] : List Int) ((x % 12 : Nat) : Int) = (n.val : Int) := hn
    refine Ev.bind e1 ?_
    simp only [hj, q1, q2, hn', if_true]
    refine Ev.bind (impl_orbits h1 h4) ?_
    exact l0_classes h1 h4 (clsN n.val) [] rfl
end Go.Proofs.Ytoijcallajegfaa.Pure
end
