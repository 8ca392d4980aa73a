/- Plain helps for the laws: rounds of a loop, numbers in range, lists read at a place. -/
import Derived.Test.YteddlkdbefloaaaSzb
namespace Go.Proofs.Yteddlkdbefloaaa.S
open Go Go.RowKit
set_option linter.unusedVariables false

/-- What a loop gives, by its rounds. -/
theorem iter_ind {α γ : Type} {step : (α → Option γ) → α → Option γ} (I : α → Prop) (G : α → Option γ) (μ : α → Nat)
    (h : ∀ rec x, I x → (∀ y, I y → μ y < μ x → rec y = G y) → step rec x = G x) : ∀ n x, I x → μ x < n → iterF step n x = G x
  | 0, x, _, hm => absurd hm (Nat.not_lt_zero _)
  | n + 1, x, hI, hm => h (iterF step n) x hI fun y hy hlt => iter_ind I G μ h n y hy (by omega)

/-- The same, of states that are made of plainer things. -/
theorem iter_map {α β γ : Type} {step : (α → Option γ) → α → Option γ} (φ : β → α) (I : β → Prop) (G : β → Option γ) (μ : β → Nat)
    (h : ∀ rec b, I b → (∀ b', I b' → μ b' < μ b → rec (φ b') = G b') → step rec (φ b) = G b) : ∀ n b, I b → μ b < n → iterF step n (φ b) = G b
  | 0, b, _, hm => absurd hm (Nat.not_lt_zero _)
  | n + 1, b, hI, hm => h (iterF step n) b hI fun c hc hlt => iter_map φ I G μ h n c hc (by omega)

theorem lots_eq : lots = 18446744073709551616 := rfl

theorem wrap64 {n : Int} (h1 : -9223372036854775808 ≤ n) (h2 : n ≤ 9223372036854775807) : IntKind.i64.wrap n = n := by
  show (if (true && decide (n % 18446744073709551616 ≥ 9223372036854775808)) = true then n % 18446744073709551616 - 18446744073709551616 else n % 18446744073709551616) = n
  split
  · rename_i h; simp at h; omega
  · rename_i h; simp at h; omega

theorem maxLen_eq : maxLen = 9223372036854775807 := by decide

theorem inR64 {n : Int} (h : inR (.int .i64) n) : -9223372036854775808 ≤ n ∧ n ≤ 9223372036854775807 := h

theorem at_lt {α : Type} {m : List α} {i : Int} (h0 : 0 ≤ i) (h : i < (m.length : Int)) : ∃ y, m[i.toNat]? = some y ∧ y ∈ m ∧ m.drop i.toNat = y :: m.drop (i + 1).toNat := by
  have hn : i.toNat < m.length := by omega
  refine ⟨m[i.toNat], List.getElem?_eq_getElem hn, List.getElem_mem hn, ?_⟩
  rw [List.drop_eq_getElem_cons hn]
  congr 2
  omega

theorem step64 {i : Int} {n : Nat} (h0 : 0 ≤ i) (h : i < (n : Int)) (hn : n ≤ maxLen) : IntKind.i64.wrap (i + 1) = i + 1 := by
  rw [maxLen_eq] at hn
  exact wrap64 (by omega) (by omega)

theorem drop_end {α : Type} {m : List α} {i : Int} (h : ¬ i < (m.length : Int)) : m.drop i.toNat = [] := List.drop_of_length_le (by omega)

end Go.Proofs.Yteddlkdbefloaaa.S
