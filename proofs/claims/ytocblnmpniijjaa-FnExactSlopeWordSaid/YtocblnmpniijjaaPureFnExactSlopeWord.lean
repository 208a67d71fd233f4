/- The pure law of SlopeWord: what the program and the reference compute is the same. No conditions. -/
import Derived.Test.YtocblnmpniijjaaPFnExactSlopeWordx1
namespace Go.Proofs.Ytocblnmpniijjaa.Pure
open Go.RowKit Go.Proofs.Ytocblnmpniijjaa.PFnExactSlopeWord Go.Proofs.YtocblnmpniijjaaW.PrintWords Go.Proofs.YtocblnmpniijjaaW.PrintLast

-- BODY
theorem slopeWord_in : ∀ a : Fin 13, ∀ b : Fin 13, laws_FnExactSlopeWord.f 60 (a.val : Int) (b.val : Int) = some true := by decide +kernel
theorem FnExactSlopeWord : laws_FnExactSlopeWord.Pure := by
  intro p q _ _
  by_cases h : (0 ≤ p ∧ p ≤ 12) ∧ (0 ≤ q ∧ q ≤ 12)
  · obtain ⟨⟨h1, h2⟩, h3, h4⟩ := h
    obtain ⟨a, rfl⟩ : ∃ a : Nat, p = a := ⟨p.toNat, by omega⟩
    obtain ⟨b, rfl⟩ : ∃ b : Nat, q = b := ⟨q.toNat, by omega⟩
    exact ⟨60, slopeWord_in ⟨a, by omega⟩ ⟨b, by omega⟩⟩
  · refine ⟨0, ?_⟩
    have e1 : spec_SlopeOk.f 0 p q = some false := by
      unfold spec_SlopeOk.f spec_l01In.f
      by_cases h1 : 0 ≤ p
      · by_cases h2 : p ≤ 12
        · by_cases h3 : 0 ≤ q
          · have h4 : ¬ q ≤ 12 := by omega
            simp [h1, h2, h3, h4]
          · simp [h1, h2, h3]
        · simp [h1, h2]
      · simp [h1]
    have e2 : impl_SlopeOk.f 0 p q = some false := by
      unfold impl_SlopeOk.f
      by_cases h1 : 0 ≤ p
      · by_cases h3 : 0 ≤ q
        · by_cases h2 : p ≤ 12
          · have h4 : ¬ q ≤ 12 := by omega
            simp [h1, h2, h3, h4]
          · simp [h1, h2, h3]
        · simp [h1, h3]
      · simp [h1]
    unfold laws_FnExactSlopeWord.f spec_SlopeWord.f impl_SlopeWord.f
    rw [e1, e2]
    simp

end Go.Proofs.Ytocblnmpniijjaa.Pure
