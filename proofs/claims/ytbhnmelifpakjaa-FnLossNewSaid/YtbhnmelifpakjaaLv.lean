/- The validity of a loss detection. -/
import Derived.Test.YtbhnmelifpakjaaA0
import Derived.Test.YtbhnmelifpakjaaSl
namespace Go.Proofs.Ytbhnmelifpakjaa
open Go.RowKit
set_option linter.unusedVariables false

/-- The packets as they lie in memory. -/
def pkG (l : List (Int × Int × Int)) (i j : Nat) : Value := match j with
  | 0 => .int .i64 (l.getD i (0, 0, 0)).1
  | 1 => .int .i64 (l.getD i (0, 0, 0)).2.1
  | _ => .int .i64 (l.getD i (0, 0, 0)).2.2

/-- Packet i is in range and in order; m: the largest number. -/
def pkOk (m lg : Int) (p : Int × Int × Int) : Bool := inB p.1 0 m && !decide (p.1 = lg) && inB p.2.1 0 999 && inB p.2.2 1 99
def pkLe (p q : Int × Int × Int) : Bool := decide (p.1 < q.1) && decide (p.2.1 ≤ q.2.1)
def flOk (m lg : Int) (l : List (Int × Int × Int)) (i : Nat) : Bool := pkOk m lg (l.getD i (0, 0, 0)) && (decide (i = 0) || pkLe (l.getD (i - 1) (0, 0, 0)) (l.getD i (0, 0, 0)))
def lossOk (nx lg : Int) (l : List (Int × Int × Int)) : Bool := inB nx 0 1000 && inB lg (-1) (nx - 1) && decide (l.length ≤ 12) && (List.range l.length).all (flOk (nx - 1) lg l)

theorem lossOk_mk {nx lg : Int} {l : List (Int × Int × Int)} (h1 : inB nx 0 1000 = true) (h2 : inB lg (-1) (nx - 1) = true) (h3 : l.length ≤ 12) (h4 : ∀ i, i < l.length → flOk (nx - 1) lg l i = true) : lossOk nx lg l = true := by
  unfold lossOk
  rw [h1, h2, decide_eq_true h3]
  simpa using h4
theorem lossOk_no {nx lg : Int} {l : List (Int × Int × Int)} {i : Nat} (hi : i < l.length) (h : flOk (nx - 1) lg l i = false) : lossOk nx lg l = false := by
  unfold lossOk
  have : (List.range l.length).all (flOk (nx - 1) lg l) = false := by
    rw [List.all_eq_false]
    exact ⟨i, List.mem_range.2 hi, by simp [h]⟩
  rw [this]; simp
theorem pk_cases (m lg : Int) (p : Int × Int × Int) :
    (inB p.1 0 m = false ∧ pkOk m lg p = false) ∨ (inB p.1 0 m = true ∧ (p.1 == lg) = true ∧ pkOk m lg p = false) ∨ (inB p.1 0 m = true ∧ (p.1 == lg) = false ∧ inB p.2.1 0 999 = false ∧ pkOk m lg p = false) ∨
    (inB p.1 0 m = true ∧ (p.1 == lg) = false ∧ inB p.2.1 0 999 = true ∧ inB p.2.2 1 99 = false ∧ pkOk m lg p = false) ∨ (inB p.1 0 m = true ∧ (p.1 == lg) = false ∧ inB p.2.1 0 999 = true ∧ inB p.2.2 1 99 = true ∧ pkOk m lg p = true) := by
  unfold pkOk
  cases inB p.1 0 m <;> cases inB p.2.1 0 999 <;> cases inB p.2.2 1 99 <;> by_cases h : p.1 = lg <;> simp [h]
theorem pk_cases2 (m lg : Int) (p : Int × Int × Int) :
    (inB p.1 0 m = false ∧ pkOk m lg p = false) ∨ (inB p.1 0 m = true ∧ inB p.2.1 0 999 = false ∧ pkOk m lg p = false) ∨ (inB p.1 0 m = true ∧ inB p.2.1 0 999 = true ∧ inB p.2.2 1 99 = false ∧ pkOk m lg p = false) ∨
    (inB p.1 0 m = true ∧ inB p.2.1 0 999 = true ∧ inB p.2.2 1 99 = true ∧ (p.1 == lg) = true ∧ pkOk m lg p = false) ∨ (inB p.1 0 m = true ∧ inB p.2.1 0 999 = true ∧ inB p.2.2 1 99 = true ∧ (p.1 == lg) = false ∧ pkOk m lg p = true) := by
  unfold pkOk
  cases inB p.1 0 m <;> cases inB p.2.1 0 999 <;> cases inB p.2.2 1 99 <;> by_cases h : p.1 = lg <;> simp [h]
theorem lossOk_noM {nx lg m : Int} {l : List (Int × Int × Int)} {i : Nat} (hm : IntKind.i64.wrap (nx - 1) = m) (hi : i < l.length) (h : flOk m lg l i = false) : lossOk nx lg l = false := by
  cases b : inB nx 0 1000
  · unfold lossOk; rw [b]; rfl
  · obtain ⟨h1, h2⟩ : 0 ≤ nx ∧ nx ≤ 1000 := by simpa [inB] using b
    rw [IntWalk.i64_in _ (by omega)] at hm
    rw [← hm] at h
    exact lossOk_no hi h
theorem lossOk_allM {nx lg m : Int} {l : List (Int × Int × Int)} (hm : IntKind.i64.wrap (nx - 1) = m) (h : ∀ i, i < l.length → flOk m lg l i = true) : lossOk nx lg l = (inB nx 0 1000 && inB lg (-1) m && decide (l.length ≤ 12)) := by
  cases b : inB nx 0 1000
  · unfold lossOk; rw [b]; rfl
  · obtain ⟨h1, h2⟩ : 0 ≤ nx ∧ nx ≤ 1000 := by simpa [inB] using b
    rw [IntWalk.i64_in _ (by omega)] at hm
    rw [← hm] at h ⊢
    unfold lossOk
    have : (List.range l.length).all (flOk (nx - 1) lg l) = true := by simpa using h
    rw [b, this]; simp
theorem le_cases (p q : Int × Int × Int) : (decide (q.1 ≤ p.1) = true ∧ pkLe p q = false) ∨ (decide (q.1 ≤ p.1) = false ∧ decide (q.2.1 < p.2.1) = true ∧ pkLe p q = false) ∨ (decide (q.1 ≤ p.1) = false ∧ decide (q.2.1 < p.2.1) = false ∧ pkLe p q = true) := by
  unfold pkLe
  by_cases h : q.1 ≤ p.1
  · exact .inl ⟨decide_eq_true h, by rw [decide_eq_false (show ¬ p.1 < q.1 by omega)]; rfl⟩
  · by_cases h2 : q.2.1 < p.2.1
    · exact .inr (.inl ⟨decide_eq_false h, decide_eq_true h2, by rw [decide_eq_false (show ¬ p.2.1 ≤ q.2.1 by omega)]; simp⟩)
    · exact .inr (.inr ⟨decide_eq_false h, decide_eq_false h2, by rw [decide_eq_true (show p.2.1 ≤ q.2.1 by omega), decide_eq_true (show p.1 < q.1 by omega)]; rfl⟩)
end Go.Proofs.Ytbhnmelifpakjaa
