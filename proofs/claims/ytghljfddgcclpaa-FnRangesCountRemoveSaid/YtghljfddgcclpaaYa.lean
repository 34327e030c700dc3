/- Ranges, in plain terms. -/
import Derived.Test.YtghljfddgcclpaaA0
namespace Go.Proofs.Ytghljfddgcclpaa
set_option linter.unusedVariables false

abbrev RL := List (Int × Int)
/-- Ranges that ascend, neither overlapping nor touching, behind p. -/
def chn (p : Int) : RL → Bool
  | [] => true
  | r :: l => (decide (p + 2 ≤ r.1) && decide (r.1 ≤ r.2) && decide (r.2 ≤ 999)) && chn r.2 l
def rOk (l : RL) : Bool := decide (l.length ≤ 16) && chn (-2) l
def hasR (l : RL) (n : Int) : Bool := l.any fun r => inB n r.1 r.2
/-- What is left of one range. -/
def cutR (low high : Int) (r : Int × Int) : RL := (if r.1 < low then [(r.1, min r.2 (low - 1))] else []) ++ (if high < r.2 then [(max r.1 (high + 1), r.2)] else [])
def rem (low high : Int) (l : RL) : RL := l.flatMap (cutR low high)
def cnt (l : RL) : Int := (l.map fun r => r.2 - r.1 + 1).sum
def span (low high : Int) : Bool := inB low 0 high && decide (high ≤ 999)
def remOk (l : RL) (low high : Int) : Bool := rOk l && span low high && decide ((rem low high l).length ≤ 16)
def remS (l : RL) (low high : Int) : RL := if remOk l low high = true then rem low high l else []
theorem chn_cons {p : Int} {r : Int × Int} {l : RL} : chn p (r :: l) = true ↔ (p + 2 ≤ r.1 ∧ r.1 ≤ r.2 ∧ r.2 ≤ 999) ∧ chn r.2 l = true := by
  simp [chn, and_assoc]
theorem chn_mono {p q : Int} {l : RL} (h : chn p l = true) (hq : q ≤ p) : chn q l = true := by
  cases l with
  | nil => rfl
  | cons r l => rw [chn_cons] at h ⊢; exact ⟨⟨by omega, h.1.2⟩, h.2⟩
/-- All numbers of ranges lie behind. -/
theorem chn_ge {p : Int} {l : RL} (h : chn p l = true) : ∀ r ∈ l, p + 2 ≤ r.1 ∧ r.1 ≤ r.2 ∧ r.2 ≤ 999 := by
  induction l generalizing p with
  | nil => intro r m; cases m
  | cons x l ih =>
    rw [chn_cons] at h
    intro r m
    rcases List.mem_cons.1 m with rfl | m
    · exact h.1
    · have := ih h.2 r m; omega
theorem hasR_behind {p n : Int} {l : RL} (h : chn p l = true) (hn : n < p + 2) : hasR l n = false := by
  unfold hasR
  rw [List.any_eq_false]
  intro r m
  have := chn_ge h r m
  simp [inB]; omega
theorem hasR_cons (r : Int × Int) (l : RL) (n : Int) : hasR (r :: l) n = (inB n r.1 r.2 || hasR l n) := rfl
theorem hasR_app (l k : RL) (n : Int) : hasR (l ++ k) n = (hasR l n || hasR k n) := by simp [hasR]
theorem cut_has {low high : Int} (hlh : low ≤ high) {r : Int × Int} (hr : r.1 ≤ r.2) (n : Int) : hasR (cutR low high r) n = (inB n r.1 r.2 && (decide (n < low) || decide (high < n))) := by
  rw [Bool.eq_iff_iff]
  unfold cutR hasR inB
  by_cases h1 : r.1 < low <;> by_cases h2 : high < r.2
  all_goals
    simp [h1, h2]
    omega
theorem rem_cons (low high : Int) (r : Int × Int) (l : RL) : rem low high (r :: l) = cutR low high r ++ rem low high l := rfl
theorem rem_has {p low high : Int} (hlh : low ≤ high) {l : RL} (h : chn p l = true) (n : Int) : hasR (rem low high l) n = (hasR l n && (decide (n < low) || decide (high < n))) := by
  induction l generalizing p with
  | nil => rfl
  | cons r l ih =>
    rw [chn_cons] at h
    rw [rem_cons, hasR_app, hasR_cons, cut_has hlh h.1.2.1, ih h.2]
    cases inB n r.1 r.2 <;> cases hasR l n <;> cases (decide (n < low) || decide (high < n)) <;> rfl
/-- What is left ascends. -/
theorem rem_chn {p low high : Int} (hlh : low ≤ high) {l : RL} (h : chn p l = true) : chn p (rem low high l) = true := by
  induction l generalizing p with
  | nil => rfl
  | cons r l ih =>
    rw [chn_cons] at h
    have k := ih h.2
    rw [rem_cons]
    unfold cutR
    by_cases h1 : r.1 < low <;> by_cases h2 : high < r.2
    · rw [if_pos h1, if_pos h2]
      show chn p ((r.1, min r.2 (low - 1)) :: (max r.1 (high + 1), r.2) :: rem low high l) = true
      rw [chn_cons, chn_cons]
      exact ⟨by simp only; omega, by simp only; omega, k⟩
    · rw [if_pos h1, if_neg h2]
      show chn p ((r.1, min r.2 (low - 1)) :: rem low high l) = true
      rw [chn_cons]
      exact ⟨by simp only; omega, chn_mono k (by simp only; omega)⟩
    · rw [if_neg h1, if_pos h2]
      show chn p ((max r.1 (high + 1), r.2) :: rem low high l) = true
      rw [chn_cons]
      exact ⟨by simp only; omega, k⟩
    · rw [if_neg h1, if_neg h2]
      exact chn_mono k (by omega)
theorem rok_t {l : RL} (h : rOk l = true) : l.length ≤ 16 ∧ chn (-2) l = true := by
  unfold rOk at h
  simpa using h
theorem rok_mk {l : RL} (h1 : l.length ≤ 16) (h2 : chn (-2) l = true) : rOk l = true := by
  unfold rOk; rw [decide_eq_true h1, h2]; rfl
theorem span_t {low high : Int} (h : span low high = true) : 0 ≤ low ∧ low ≤ high ∧ high ≤ 999 := by
  unfold span inB at h
  simp at h
  omega
theorem rem_ok {l : RL} {low high : Int} (h : remOk l low high = true) : rOk l = true ∧ (0 ≤ low ∧ low ≤ high ∧ high ≤ 999) ∧ remS l low high = rem low high l ∧ rOk (rem low high l) = true := by
  have h' := h
  unfold remOk at h
  simp only [Bool.and_eq_true, decide_eq_true_eq] at h
  obtain ⟨⟨h1, h2⟩, h3⟩ := h
  have hs := span_t h2
  exact ⟨h1, hs, by unfold remS; rw [if_pos h'], rok_mk h3 (rem_chn hs.2.1 (rok_t h1).2)⟩
theorem rem_has_ok {l : RL} {low high : Int} (h : remOk l low high = true) (n : Int) : (rOk (rem low high l) && hasR (rem low high l) n) = ((rOk l && hasR l n) && (decide (n < low) || decide (high < n))) := by
  obtain ⟨h1, h2, _, h4⟩ := rem_ok h
  rw [h1, h4, rem_has h2.2.1 (rok_t h1).2]
  simp
/-- How many numbers of a range lie from a to b. -/
def lap (a b : Int) (r : Int × Int) : Int := max 0 (min r.2 b - max r.1 a + 1)
def laps (a b : Int) (l : RL) : Int := (l.map (lap a b)).sum
theorem cnt_cons (r : Int × Int) (l : RL) : cnt (r :: l) = r.2 - r.1 + 1 + cnt l := by simp [cnt]
theorem cnt_app (l k : RL) : cnt (l ++ k) = cnt l + cnt k := by simp [cnt]
theorem laps_cons (a b : Int) (r : Int × Int) (l : RL) : laps a b (r :: l) = lap a b r + laps a b l := by simp [laps]
theorem cut_cnt {low high : Int} (hlh : low ≤ high) {r : Int × Int} (hr : r.1 ≤ r.2) : (r.2 - r.1 + 1) - cnt (cutR low high r) = lap low high r := by
  unfold cutR lap
  by_cases h1 : r.1 < low <;> by_cases h2 : high < r.2
  all_goals
    simp [h1, h2, cnt]
    omega
theorem rem_cnt {p low high : Int} (hlh : low ≤ high) {l : RL} (h : chn p l = true) : cnt l - cnt (rem low high l) = laps low high l := by
  induction l generalizing p with
  | nil => rfl
  | cons r l ih =>
    rw [chn_cons] at h
    have k := ih h.2
    have c := cut_cnt hlh h.1.2.1
    rw [rem_cons, cnt_app, cnt_cons, laps_cons]
    omega
theorem laps_0 {p a : Int} {l : RL} (h : chn p l = true) : laps a (a - 1) l = 0 := by
  induction l generalizing p with
  | nil => rfl
  | cons r l ih =>
    rw [chn_cons] at h
    rw [laps_cons, ih h.2]
    unfold lap
    omega
/-- One number more. -/
theorem laps_behind {p a b : Int} {l : RL} (h : chn p l = true) (hb : b < p + 2) : laps a b l = 0 := by
  induction l generalizing p with
  | nil => rfl
  | cons r l ih =>
    rw [chn_cons] at h
    rw [laps_cons, ih h.2 (by omega)]
    unfold lap
    omega
theorem laps_step {p a b : Int} {l : RL} (h : chn p l = true) (hab : a ≤ b) : laps a b l = laps a (b - 1) l + (if hasR l b = true then 1 else 0) := by
  induction l generalizing p with
  | nil => rfl
  | cons r l ih =>
    rw [chn_cons] at h
    rw [laps_cons, laps_cons, hasR_cons]
    by_cases hin : r.1 ≤ b ∧ b ≤ r.2
    · have e : inB b r.1 r.2 = true := by unfold inB; simp; exact hin
      rw [e, laps_behind h.2 (by omega), laps_behind h.2 (by omega)]
      simp
      unfold lap
      omega
    · have e : inB b r.1 r.2 = false := by unfold inB; simp; omega
      rw [e, Bool.false_or, ih h.2]
      unfold lap
      omega
theorem cnt_bound {p : Int} {l : RL} (h : chn p l = true) (hp : -2 ≤ p) : 0 ≤ cnt l ∧ cnt l ≤ 1000 - (p + 2) + 0 ∨ l = [] := by
  induction l generalizing p with
  | nil => exact .inr rfl
  | cons r l ih =>
    rw [chn_cons] at h
    left
    rw [cnt_cons]
    rcases ih h.2 (by omega) with k | k
    · omega
    · subst k; simp [cnt]; omega
theorem cnt_small {l : RL} (h : rOk l = true) : 0 ≤ cnt l ∧ cnt l ≤ 1000 := by
  rcases cnt_bound (rok_t h).2 (by omega) with k | k
  · omega
  · subst k; simp [cnt]
end Go.Proofs.Ytghljfddgcclpaa
