/- Atoms and lists of numbers. -/
import Derived.Test.YtdnkopnhpffcdaaVa
import Derived.Test.YtdnkopnhpffcdaaVb
import Derived.Test.YtdnkopnhpffcdaaNs
import Derived.BigQuiet
namespace Go.Proofs.Ytdnkopnhpffcdaa
open Go.RowKit
set_option linter.unusedVariables false

/-- A list of numbers as it lies in memory. -/
def inG (l : List Int) (i j : Nat) : Value := .int .i64 (l.getD i 0)
theorem is_at {B n : Nat} {w : World} {a : Option Addr} {l : List Int} (h : Sl 1 w B a n (inG l)) {i : Nat} (hi : i < n) : ∃ b off, a = some ⟨b, off, none⟩ ∧ b < B ∧ ∀ i, i < n → w.cell? ⟨b, off + i, none⟩ = some (.int .i64 (l.getD i 0)) := by
  obtain ⟨b, off, rfl, hB, hc⟩ := h.at hi
  exact ⟨b, off, rfl, hB, fun i hi => by have := hc i hi 0 (by omega); rwa [Nat.mul_one, Nat.add_zero] at this⟩
theorem all_no {α : Type} {f : α → Bool} {l : List α} {d : α} {k : Nat} (hk : k < l.length) (h : f (l.getD k d) = false) : l.all f = false := by
  rw [List.all_eq_false]
  refine ⟨l.getD k d, ?_, by rw [h]; simp⟩
  rw [List.getD_eq_getElem?_getD, List.getElem?_eq_getElem hk]; exact List.getElem_mem hk
theorem all_yes {α : Type} {f : α → Bool} {l : List α} {d : α} (h : ∀ j, j < l.length → f (l.getD j d) = true) : l.all f = true := by
  rw [List.all_eq_true]
  intro x hx
  obtain ⟨i, hi, rfl⟩ := List.mem_iff_getElem.1 hx
  have := h i hi
  rwa [List.getD_eq_getElem?_getD, List.getElem?_eq_getElem hi] at this
theorem mem_no {l : List Int} {x : Int} (h : ∀ j, j < l.length → l.getD j 0 ≠ x) : decide (x ∈ l) = false := by
  rw [decide_eq_false_iff_not]
  intro hx
  obtain ⟨i, hi, e⟩ := List.mem_iff_getElem.1 hx
  have := h i hi
  rw [List.getD_eq_getElem?_getD, List.getElem?_eq_getElem hi] at this
  exact this e
theorem mem_yes {l : List Int} {x : Int} {k : Nat} (hk : k < l.length) (h : l.getD k 0 = x) : decide (x ∈ l) = true := by
  rw [decide_eq_true_eq, ← h, List.getD_eq_getElem?_getD, List.getElem?_eq_getElem hk]; exact List.getElem_mem hk

theorem atom_impl (x : Int) (w : World) :
    Calls Try.prog 57 #[.int .i64 x] w fun e w' => e = .returned (.bool (atomOk x)) ∧ w = w' := by
  go_enter Try.func57, Try.ntmps57
  go_wp2_with (go_at_call 58; refine (within_c _ _ _ _).mono ?_; rintro e w' ⟨rfl, rfl⟩)
  go_ret
  exact ⟨rfl, rfl⟩
theorem atom_spec (x : Int) (w : World) :
    Calls Try.prog 45 #[.int .i64 x] w fun e w' => e = .returned (.bool (atomOk x)) ∧ w = w' := by
  go_enter Try.func45, Try.ntmps45
  go_wp2_with (go_at_call 46; refine (l6In_c _ _ _ _).mono ?_; rintro e w' ⟨rfl, rfl⟩)
  go_ret
  exact ⟨rfl, rfl⟩
theorem areAtoms_c (a : Option Addr) (n cap : Nat) (l : List Int) (w : World) (hl : l.length = n) (S : Sl 1 w w.heap.size a n (inG l)) :
    Calls Try.prog 55 #[.slice a n cap] w fun e w' => e = .returned (.bool (l.all atomOk)) ∧ w = w' := by
  have HS := Lib.hid S
  have hn := S.len
  clear S
  go_enter Try.func55, Try.ntmps55
  go_wp2_with fail
  go_loop [7] (fun i => ∃ k : Nat, k ≤ n ∧ i = .int .i64 k ∧ ∀ j, j < k → atomOk (l.getD j 0) = true) (fun i => n - (intOf i).toNat)
  case atStart => exact ⟨0, by omega, rfl, fun j hj => by omega⟩
  case round =>
    obtain ⟨k, hk, rfl, hall⟩ := hrel
    by_cases hlt : k < n
    · have hki : (k : Int) < (n : Int) := by omega
      obtain ⟨b, off, rfl, hB, hc⟩ := is_at HS.out hlt
      have x := hc k hlt
      obtain ⟨p, hp⟩ : ∃ p, l.getD k 0 = p := ⟨_, rfl⟩
      rw [hp] at x
      cases hat : atomOk p
      · have G := Lib.hid (all_no (f := atomOk) (d := 0) (hl ▸ hlt) (by rw [hp]; exact hat))
        clear hc hall hp
        go_wp2_with fail
        refine (atom_impl p _).mono ?_
        rintro e w' ⟨rfl, rfl⟩
        rw [hat]
        go_wp2_with fail
        go_ret
        rw [G.out]
        exact ⟨rfl, rfl⟩
      · have G := Lib.hid (all_step hall (by rw [hp]; exact hat))
        clear hc hall hp
        go_wp2_with fail
        refine (atom_impl p _).mono ?_
        rintro e w' ⟨rfl, rfl⟩
        rw [hat]
        go_wp2_with fail
        go_roundw
        case rel => exact ⟨k + 1, by omega, by go_num, G.out⟩
        case measure => simp [intOf]; omega
    · obtain rfl : k = n := by omega
      have E := Lib.hid (all_yes (f := atomOk) (l := l) (d := 0) (by rw [hl]; exact hall))
      clear hall
      go_wp2_with fail
      go_ret
      rw [E.out]
      exact ⟨rfl, rfl⟩
theorem known_c (a : Option Addr) (n cap : Nat) (l : List Int) (w : World) (hl : l.length = n) (S : Sl 1 w w.heap.size a n (inG l)) :
    Calls Try.prog 43 #[.slice a n cap] w fun e w' => e = .returned (.bool (knownOk l)) ∧ w = w' := by
  have HS := Lib.hid S
  have hn := S.len
  clear S
  go_enter Try.func43, Try.ntmps43
  go_wp2_with fail
  go_loop [3] (fun i => ∃ k : Nat, k ≤ n ∧ i = .int .i64 k ∧ ∀ j, j < k → atomOk (l.getD j 0) = true) (fun i => n - (intOf i).toNat)
  case atStart => exact ⟨0, by omega, rfl, fun j hj => by omega⟩
  case round =>
    obtain ⟨k, hk, rfl, hall⟩ := hrel
    by_cases hlt : k < n
    · have hki : (k : Int) < (n : Int) := by omega
      obtain ⟨b, off, rfl, hB, hc⟩ := is_at HS.out hlt
      have x := hc k hlt
      obtain ⟨p, hp⟩ : ∃ p, l.getD k 0 = p := ⟨_, rfl⟩
      rw [hp] at x
      cases hat : atomOk p
      · have G := Lib.hid (all_no (f := atomOk) (d := 0) (hl ▸ hlt) (by rw [hp]; exact hat))
        clear hc hall hp
        go_wp2_with fail
        refine (atom_spec p _).mono ?_
        rintro e w' ⟨rfl, rfl⟩
        rw [hat]
        go_wp2_with fail
        go_ret
        unfold knownOk
        rw [G.out, Bool.and_false]
        exact ⟨rfl, rfl⟩
      · have G := Lib.hid (all_step hall (by rw [hp]; exact hat))
        clear hc hall hp
        go_wp2_with fail
        refine (atom_spec p _).mono ?_
        rintro e w' ⟨rfl, rfl⟩
        rw [hat]
        go_wp2_with fail
        go_roundw
        case rel => exact ⟨k + 1, by omega, by go_num, G.out⟩
        case measure => simp [intOf]; omega
    · obtain rfl : k = n := by omega
      have E : l.all atomOk = true := all_yes (d := 0) (by rw [hl]; exact hall)
      have E2 : RowKit.Hid (knownOk l = decide (l.length ≤ 20)) := Lib.hid (by unfold knownOk; rw [E, Bool.and_true])
      clear E hall
      by_cases h20 : k ≤ 20
      · have h20' : (k : Int) ≤ 20 := by omega
        go_wp2_with fail
        go_ret
        rw [E2.out, decide_eq_true (by omega)]
        exact ⟨rfl, rfl⟩
      · have h20' : ¬ (k : Int) ≤ 20 := by omega
        go_wp2_with fail
        go_ret
        rw [E2.out, decide_eq_false (by omega)]
        exact ⟨rfl, rfl⟩
theorem hasI_c (a : Option Addr) (n cap : Nat) (l : List Int) (x : Int) (w : World) (hl : l.length = n) (S : Sl 1 w w.heap.size a n (inG l)) :
    Calls Try.prog 19 #[.slice a n cap, .int .i64 x] w fun e w' => e = .returned (.bool (decide (x ∈ l))) ∧ w = w' := by
  have HS := Lib.hid S
  have hn := S.len
  clear S
  go_enter Try.func19, Try.ntmps19
  go_wp2_with fail
  go_loop [5] (fun i => ∃ k : Nat, k ≤ n ∧ i = .int .i64 k ∧ ∀ j, j < k → l.getD j 0 ≠ x) (fun i => n - (intOf i).toNat)
  case atStart => exact ⟨0, by omega, rfl, fun j hj => by omega⟩
  case round =>
    obtain ⟨k, hk, rfl, hall⟩ := hrel
    by_cases hlt : k < n
    · have hki : (k : Int) < (n : Int) := by omega
      obtain ⟨b, off, rfl, hB, hc⟩ := is_at HS.out hlt
      have y := hc k hlt
      obtain ⟨p, hp⟩ : ∃ p, l.getD k 0 = p := ⟨_, rfl⟩
      rw [hp] at y
      cases hat : (p == x)
      · have G : ∀ j, j < k + 1 → l.getD j 0 ≠ x := fun j hj => by
          by_cases e : j = k
          · rw [e, hp]; simpa using hat
          · exact hall j (by omega)
        have G := Lib.hid G
        clear hc hall hp
        go_wp2_with fail
        go_roundw
        case rel => exact ⟨k + 1, by omega, by go_num, G.out⟩
        case measure => simp [intOf]; omega
      · have G := Lib.hid (mem_yes (hl ▸ hlt) (hp.trans (by simpa using hat)))
        clear hc hall hp
        go_wp2_with fail
        go_ret
        rw [G.out]
        exact ⟨rfl, rfl⟩
    · obtain rfl : k = n := by omega
      have E := Lib.hid (mem_no (l := l) (x := x) (by rw [hl]; exact hall))
      clear hall
      go_wp2_with fail
      go_ret
      rw [E.out]
      exact ⟨rfl, rfl⟩
theorem hasS_c (a : Option Addr) (n cap : Nat) (l : List Int) (x : Int) (w : World) (hl : l.length = n) (S : Sl 1 w w.heap.size a n (inG l)) :
    Calls Try.prog 48 #[.slice a n cap, .int .i64 x] w fun e w' => e = .returned (.bool (decide (x ∈ l))) ∧ w = w' := by
  have HS := Lib.hid S
  have hn := S.len
  clear S
  go_enter Try.func48, Try.ntmps48
  go_wp2_with fail
  go_loop [5] (fun i => ∃ k : Nat, k ≤ n ∧ i = .int .i64 k ∧ ∀ j, j < k → l.getD j 0 ≠ x) (fun i => n - (intOf i).toNat)
  case atStart => exact ⟨0, by omega, rfl, fun j hj => by omega⟩
  case round =>
    obtain ⟨k, hk, rfl, hall⟩ := hrel
    by_cases hlt : k < n
    · have hki : (k : Int) < (n : Int) := by omega
      obtain ⟨b, off, rfl, hB, hc⟩ := is_at HS.out hlt
      have y := hc k hlt
      obtain ⟨p, hp⟩ : ∃ p, l.getD k 0 = p := ⟨_, rfl⟩
      rw [hp] at y
      cases hat : (p == x)
      · have G : ∀ j, j < k + 1 → l.getD j 0 ≠ x := fun j hj => by
          by_cases e : j = k
          · rw [e, hp]; simpa using hat
          · exact hall j (by omega)
        have G := Lib.hid G
        clear hc hall hp
        go_wp2_with fail
        go_roundw
        case rel => exact ⟨k + 1, by omega, by go_num, G.out⟩
        case measure => simp [intOf]; omega
      · have G := Lib.hid (mem_yes (hl ▸ hlt) (hp.trans (by simpa using hat)))
        clear hc hall hp
        go_wp2_with fail
        go_ret
        rw [G.out]
        exact ⟨rfl, rfl⟩
    · obtain rfl : k = n := by omega
      have E := Lib.hid (mem_no (l := l) (x := x) (by rw [hl]; exact hall))
      clear hall
      go_wp2_with fail
      go_ret
      rw [E.out]
      exact ⟨rfl, rfl⟩
/-- The same numbers. -/
theorem sameI_c (a a' : Option Addr) (n cap cap' : Nat) (l : List Int) (w : World) (S : Sl 1 w w.heap.size a n (inG l)) (S' : Sl 1 w w.heap.size a' n (inG l)) :
    Calls Try.prog 17 #[.slice a n cap, .slice a' n cap'] w fun e w' => e = .returned (.bool true) ∧ Below w.heap.size w w' := by
  have HS := Lib.hid S
  have HS' := Lib.hid S'
  have hn := S.len
  clear S S'
  go_enter Try.func17, Try.ntmps17
  go_wp2_with fail
  go_loopw [5] (fun i wr => ∃ k : Nat, k ≤ n ∧ i = .int .i64 k ∧ Below w.heap.size w wr) (fun i _ => n - (intOf i).toNat)
  case atStart => exact ⟨0, by omega, rfl, Below.refl _ _⟩
  case round =>
    obtain ⟨k, hk, rfl, hb⟩ := hrel
    by_cases hlt : k < n
    · have hki : (k : Int) < (n : Int) := by omega
      obtain ⟨b, off, rfl, hB, hc⟩ := is_at (HS.out.below hb) hlt
      obtain ⟨b', off', rfl, hB', hc'⟩ := is_at (HS'.out.below hb) hlt
      have x := hc k hlt
      have y := hc' k hlt
      obtain ⟨p, hp⟩ : ∃ p, l.getD k 0 = p := ⟨_, rfl⟩
      rw [hp] at x y
      clear hc hc' hp
      go_wp2_with fail
      go_quiet (fail)
      go_wp2_with fail
      go_roundw
      case rel => exact ⟨k + 1, by omega, by go_num, bdrewN hb _⟩
      case measure => simp [intOf]; omega
    · obtain rfl : k = n := by omega
      go_wp2_with fail
      go_ret
      exact ⟨rfl, hb⟩
end Go.Proofs.Ytdnkopnhpffcdaa
