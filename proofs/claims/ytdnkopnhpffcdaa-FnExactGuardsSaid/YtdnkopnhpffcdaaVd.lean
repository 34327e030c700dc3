/- Sets of atoms as bits. -/
import Derived.Test.YtdnkopnhpffcdaaVc
import Derived.Laws.BitsAllLaws
import Derived.Laws.BitsLemmas
namespace Go.Proofs.Ytdnkopnhpffcdaa
open Go.RowKit
set_option linter.unusedVariables false

theorem ofInt_i64 (a : Nat) (ha : a < 9223372036854775808) : (BitVec.ofInt 64 (a : Int)).toNat = a := by
  rw [BitVec.ofInt_natCast, BitVec.toNat_ofNat]; exact Nat.mod_eq_of_lt (by omega)
theorem i64_and_nat (a b : Nat) (ha : a < 9223372036854775808) (hb : b < 9223372036854775808) : bits .and .i64 (a : Int) (b : Int) = ((a &&& b : Nat) : Int) := by
  have hx : a &&& b < 2 ^ 63 := Nat.and_lt_two_pow _ (by omega)
  show IntKind.i64.wrap ((BitVec.ofInt 64 (a : Int) &&& BitVec.ofInt 64 (b : Int)).toNat : Int) = _
  rw [BitVec.toNat_and, ofInt_i64 a ha, ofInt_i64 b hb, IntKind.wrap_i64]
  omega
theorem i64_or_nat (a b : Nat) (ha : a < 9223372036854775808) (hb : b < 9223372036854775808) : bits .or .i64 (a : Int) (b : Int) = ((a ||| b : Nat) : Int) := by
  have hx : a ||| b < 2 ^ 63 := Nat.or_lt_two_pow (by omega) (by omega)
  show IntKind.i64.wrap ((BitVec.ofInt 64 (a : Int) ||| BitVec.ofInt 64 (b : Int)).toNat : Int) = _
  rw [BitVec.toNat_or, ofInt_i64 a ha, ofInt_i64 b hb, IntKind.wrap_i64]
  omega

/-- A number whose bits are a set of atoms. -/
def Rep (s : Nat) (h : AS) : Prop := s < 2 ^ 21 ∧ (∀ i : Nat, i < 21 → s.testBit i = h i) ∧ ∀ i : Int, h i = true → 1 ≤ i ∧ i ≤ 20
theorem Rep.bound {s : Nat} {h : AS} (r : Rep s h) : s < 2097152 := by have := r.1; omega
theorem rep_eq {s t : Nat} {h g : AS} (r : Rep s h) (q : Rep t g) : s = t ↔ h = g := by
  constructor
  · rintro rfl
    funext i
    cases e : h i
    · cases e' : g i
      · rfl
      · have := q.2.2 i e'
        obtain ⟨j, rfl⟩ := Int.eq_ofNat_of_zero_le (show 0 ≤ i by omega)
        rw [← r.2.1 j (by omega), q.2.1 j (by omega), e'] at e; cases e
    · have := r.2.2 i e
      obtain ⟨j, rfl⟩ := Int.eq_ofNat_of_zero_le (show 0 ≤ i by omega)
      rw [← q.2.1 j (by omega), r.2.1 j (by omega), e]
  · rintro rfl
    apply Nat.eq_of_testBit_eq
    intro i
    by_cases hi : i < 21
    · rw [r.2.1 i hi, q.2.1 i hi]
    · rw [Nat.testBit_lt_two_pow (Nat.lt_of_lt_of_le r.1 (Nat.pow_le_pow_right (by omega) (by omega))), Nat.testBit_lt_two_pow (Nat.lt_of_lt_of_le q.1 (Nat.pow_le_pow_right (by omega) (by omega)))]
theorem rep_zero : Rep 0 (h0 []) := ⟨by omega, fun i _ => by simp [h0], fun i e => by simp [h0] at e⟩
theorem rep_or {s : Nat} {h : AS} {a : Int} (r : Rep s h) (ha : 1 ≤ a ∧ a ≤ 20) : Rep (s ||| 2 ^ a.toNat) (addA h [a]) := by
  refine ⟨Nat.or_lt_two_pow r.1 (Nat.pow_lt_pow_right (by omega) (by omega)), fun i hi => ?_, fun i e => ?_⟩
  · rw [Nat.testBit_or, r.2.1 i hi, Nat.testBit_two_pow]
    unfold addA
    congr 1
    by_cases e : a = i
    · subst e; simp
    · have : ¬ a.toNat = i := by omega
      simp [this]; omega
  · unfold addA at e
    simp only [Bool.or_eq_true, decide_eq_true_eq, List.mem_singleton] at e
    rcases e with e | rfl
    · exact r.2.2 i e
    · exact ha
theorem addA_nil (h : AS) : addA h [] = h := by funext i; simp [addA]
theorem take_snoc {α : Type} {l : List α} {d : α} {k : Nat} (hk : k < l.length) : l.take (k + 1) = l.take k ++ [l.getD k d] := by
  rw [List.take_add_one, List.getD_eq_getElem?_getD, List.getElem?_eq_getElem hk]; rfl
theorem addA_take (h : AS) {l : List Int} {k : Nat} (hk : k < l.length) : addA h (l.take (k + 1)) = addA (addA h (l.take k)) [l.getD k 0] := by
  rw [take_snoc (d := 0) hk]
  generalize l.getD k 0 = p
  funext i
  unfold addA
  simp [Bool.or_assoc]
theorem h0_take {l : List Int} {k : Nat} (hk : k < l.length) : h0 (l.take (k + 1)) = addA (h0 (l.take k)) [l.getD k 0] := by
  rw [take_snoc (d := 0) hk]
  generalize l.getD k 0 = p
  funext i
  unfold addA h0
  simp
theorem pass_take {skip : Int} {bs : BX} {h : AS} {k : Nat} (hk : k < bs.length) : passB skip (bs.take (k + 1)) h = openB skip (passB skip (bs.take k) h) (bs.getD k (0, [])) := by
  rw [take_snoc (d := (0, [])) hk]
  unfold passB
  rw [List.foldl_append]
  rfl
/-- How many bits are not set. -/
def lack (s : Nat) : Nat := ((List.range 21).filter fun i => !s.testBit i).length
theorem lack_lt {s t : Nat} {h g : AS} (r : Rep s h) (q : Rep t g) (hs : Sub h g) (hne : s ≠ t) : lack t < lack s := by
  have : ¬ ∀ i : Nat, i < 21 → g i = true → h i = true := fun e => hne ((rep_eq r q).2 (by
    funext i
    cases e1 : g i
    · cases e2 : h i
      · rfl
      · rw [hs i e2] at e1; cases e1
    · have := q.2.2 i e1
      obtain ⟨j, rfl⟩ := Int.eq_ofNat_of_zero_le (show 0 ≤ i by omega)
      exact e j (by omega) e1))
  obtain ⟨i, hi⟩ := Classical.not_forall.1 this
  obtain ⟨hi, he⟩ := Classical.not_imp.1 hi
  obtain ⟨h1, h2⟩ := Classical.not_imp.1 he
  unfold lack
  have hsub : ((List.range 21).filter fun i => !t.testBit i).length < ((List.range 21).filter fun i => !s.testBit i).length := by
    have key : ∀ (L : List Nat), (∀ j ∈ L, j < 21) → (i ∈ L → (L.filter fun i => !t.testBit i).length < (L.filter fun i => !s.testBit i).length) ∧ (L.filter fun i => !t.testBit i).length ≤ (L.filter fun i => !s.testBit i).length := by
      intro L
      induction L with
      | nil => intro _; simp
      | cons j L ih =>
        intro hL
        obtain ⟨ih1, ih2⟩ := ih fun x hx => hL x (by simp [hx])
        have hj := hL j (by simp)
        have hb : t.testBit j = false → s.testBit j = false := by
          intro e
          cases e' : s.testBit j
          · rfl
          · rw [r.2.1 j hj] at e'
            rw [q.2.1 j hj, hs _ e'] at e; cases e
        refine ⟨fun hm => ?_, ?_⟩
        · simp only [List.filter_cons]
          rcases List.mem_cons.1 hm with rfl | hm
          · rw [q.2.1 i hi, h1, r.2.1 i hi, show h i = false by simpa using h2]
            simp; omega
          · have := ih1 hm
            cases e1 : t.testBit j
            · rw [hb e1]; simpa using this
            · cases e2 : s.testBit j <;> simp <;> omega
        · simp only [List.filter_cons]
          cases e1 : t.testBit j
          · rw [hb e1]; simpa using ih2
          · cases e2 : s.testBit j <;> simp <;> omega
    exact (key (List.range 21) fun j hj => List.mem_range.1 hj).1 (List.mem_range.2 hi)
  exact hsub
end Go.Proofs.Ytdnkopnhpffcdaa
