/- Registers marked, and the marks held. -/
import Derived.Test.YtjlaikmilcgmhaaGe
namespace Go.Proofs.Ytjlaikmilcgmhaa
open Go.RowKit
set_option linter.unusedVariables false

/-- The marks from k on, s to an element. -/
def mkG (k : Int) (s : Nat) (i j : Nat) : Value := .int .i64 (k + ((i * s + j : Nat) : Int))
theorem set2s {cs : Array Value} {n k : Nat} {g : Nat → Nat → Value} (hs : n * 2 ≤ cs.size) (hk : k < n) (h : ∀ i, i < k → ∀ j, j < 2 → cs[i * 2 + j]? = some (g i j))
    {v0 v1 : Value} (e0 : g k 0 = v0) (e1 : g k 1 = v1) :
    ∀ i, i < k + 1 → ∀ j, j < 2 → ((cs.setIfInBounds (k * 2) v0).setIfInBounds (k * 2 + 1) v1)[i * 2 + j]? = some (g i j) := by
  subst e0 e1
  intro i hi j hj
  by_cases e : i = k
  · subst e
    match j, hj with
    | 0, _ => simp [Array.getElem?_setIfInBounds]; omega
    | 1, _ => simp [Array.getElem?_setIfInBounds]; omega
  · have := h i (by omega) j hj
    simp only [Array.getElem?_setIfInBounds]
    rw [if_neg (by omega), if_neg (by omega)]
    exact this
/-- The upper bound of the block stays. -/
theorem Ow.hi {k n B H : Nat} {w w' : World} {a : Option Addr} {g g' : Nat → Nat → Value} (h : Ow k w' B a n g') (hS : Sl k w H a n g) : Sl k w' H a n g' := by
  refine ⟨h.1, ?_⟩
  rcases h.2 with h0 | ⟨b, cs, T, e, hB, hb, hc⟩
  · exact .inl h0
  · rcases hS.2 with h0 | ⟨b', off, e', hb', _⟩
    · exact .inl h0
    · rw [e] at e'
      simp only [Option.some.injEq, Addr.mk.injEq] at e'
      exact .inr ⟨b, 0, e, by omega, fun i hi j hj => by rw [Nat.zero_add]; exact hb.cell _ (hc i hi j hj)⟩

set_option maxHeartbeats 1000000 in
theorem markTkS_c (k : Int) (hk0 : 0 ≤ k) (hk1 : k ≤ 1000000000) (a : Option Addr) (n cap B H : Nat) (g : Nat → Nat → Value) (w : World) (hn : n ≤ 1048576) (hO : Ow 2 w B a n g) (hS : Sl 2 w H a n g) :
    Calls Try.prog 37 #[.slice a n cap, .int .i64 k] w fun e w' => e = .returned (.int .i64 (k + 2 * n)) ∧ Chg B H w w' ∧ Ow 2 w' B a n (mkG k 2) := by
  by_cases hn0 : n = 0
  · subst hn0
    clear hO hS
    go_enter Try.func37, Try.ntmps37
    go_wp2
    go_loop [1, 5] (fun q i => q = .int .i64 k ∧ i = .int .i64 0) (fun _ _ => 0)
    case atStart => exact ⟨rfl, rfl⟩
    case round =>
      obtain ⟨rfl, rfl⟩ := hrel
      go_wp2
      go_ret
      exact ⟨by simp, Chg.refl _ _ _, Ow.none _ _ _ _ _⟩
  obtain ⟨b, cs0, T, rfl, hB, B0, hc0⟩ := hO.2.resolve_left hn0
  obtain ⟨b', off', e', hH, _⟩ := hS.2.resolve_left hn0
  simp only [Option.some.injEq, Addr.mk.injEq] at e'
  obtain ⟨rfl, z1, z2⟩ := e'
  clear z1 z2
  have hsz : n * 2 ≤ cs0.size := by
    have h1 := hc0 (n - 1) (by omega) 1 (by omega)
    have := (Array.getElem?_eq_some_iff.1 h1).1
    omega
  have hc := Chg.refl B H w
  clear hO hS hc0
  go_enter Try.func37, Try.ntmps37
  go_wp2_with fail
  go_loopw [1, 5] (fun q i wr => ∃ k' : Nat, k' ≤ n ∧ i = .int .i64 k' ∧ q = .int .i64 (k + 2 * (k' : Int)) ∧ Chg B H w wr ∧ ∃ cs : Array Value, Blk wr b cs T ∧ n * 2 ≤ cs.size ∧ ∀ i, i < k' → ∀ j, j < 2 → cs[i * 2 + j]? = some (mkG k 2 i j)) (fun _ i _ => n - (intOf i).toNat)
  case atStart => exact ⟨0, by omega, rfl, by simp, hc, cs0, B0, hsz, fun i hi => by omega⟩
  case round =>
    obtain ⟨m, hm, rfl, rfl, hcw, cs, Bk, hcs, hall⟩ := hrel
    clear hc B0 hsz
    by_cases hlt : m < n
    · have hki : (m : Int) < (n : Int) := by omega
      obtain ⟨v0, e0⟩ := arr_some (show m * 2 < cs.size by omega)
      obtain ⟨v1, e1⟩ := arr_some (show m * 2 + 1 < cs.size by omega)
      have c0 := Bk.cell _ e0
      have c1 := Bk.cell _ e1
      have f0 := Bk.free (m * 2)
      have f1 := Bk.free (m * 2 + 1)
      go_wp2_with fail
      go_roundw
      case rel =>
        have R := set2s (g := mkG k 2) hcs hlt hall (v0 := .int .i64 (k + 2 * (m : Int))) (v1 := .int .i64 (k + 2 * (m : Int) + 1)) (by unfold mkG; congr 1; omega) (by unfold mkG; congr 1; omega)
        have D := (Bk.set (m * 2) (.int .i64 (k + 2 * (m : Int)))).set (m * 2 + 1) (.int .i64 (k + 2 * (m : Int) + 1))
        clear hall e0 e1 c0 c1 f0 f1
        refine ⟨m + 1, by omega, by go_num, by congr 1; omega, ?_, ?_⟩
        · repeat (first | with_reducible exact hcw | with_reducible refine Chg.set ?_ (.inl ⟨hB, hH⟩) _ _)
        · with_reducible exact ⟨_, D, by simpa using hcs, R⟩
      case measure => simp [intOf]; omega
    · obtain rfl : m = n := by omega
      go_wp2_with fail
      go_ret
      exact ⟨rfl, hcw, by omega, .inr ⟨b, cs, T, rfl, hB, Bk, hall⟩⟩

set_option maxHeartbeats 1000000 in
theorem heldTkS_c (k : Int) (hk0 : 0 ≤ k) (hk1 : k ≤ 1000000000) (a : Option Addr) (n cap : Nat) (w : World) (hn : n ≤ 1048576) (hS : Sl 2 w w.heap.size a n (mkG k 2)) :
    Calls Try.prog 38 #[.slice a n cap, .int .i64 k] w fun e w' => e = .returned (.int .i64 (k + 2 * n)) ∧ w = w' := by
  have HS := Lib.hid hS
  clear hS
  go_enter Try.func38, Try.ntmps38
  go_wp2_with fail
  go_loop [1, 5] (fun q i => ∃ k' : Nat, k' ≤ n ∧ i = .int .i64 k' ∧ q = .int .i64 (k + 2 * (k' : Int))) (fun _ i => n - (intOf i).toNat)
  case atStart => exact ⟨0, by omega, rfl, by simp⟩
  case round =>
    obtain ⟨m, hm, rfl, rfl⟩ := hrel
    by_cases hlt : m < n
    · have hki : (m : Int) < (n : Int) := by omega
      obtain ⟨b, off, rfl, hB, hc⟩ := HS.out.at hlt
      have x0 := hc m hlt 0 (by omega)
      have x1 := hc m hlt 1 (by omega)
      have E0 : mkG k 2 m 0 = .int .i64 (k + 2 * (m : Int)) := by unfold mkG; congr 1; omega
      have E1 : mkG k 2 m 1 = .int .i64 (k + 2 * (m : Int) + 1) := by unfold mkG; congr 1; omega
      rw [E0] at x0
      rw [E1] at x1
      rw [Nat.add_zero] at x0
      clear hc E0 E1
      go_wp2_with fail
      go_round
      case rel => exact ⟨m + 1, by omega, by go_num, by congr 1; omega⟩
      case measure => simp [intOf]; omega
    · obtain rfl : m = n := by omega
      go_wp2_with fail
      go_ret
      exact ⟨rfl, rfl⟩

theorem markReg_c (k now : Int) (hk0 : 0 ≤ k) (hk1 : k ≤ 1000000000) (a : Option Addr) (n cap B H : Nat) (g : Nat → Nat → Value) (w : World) (hn : n ≤ 1048576) (hO : Ow 2 w B a n g) (hS : Sl 2 w H a n g) (hH : H ≤ w.heap.size) :
    Calls Try.prog 25 #[.agg #[.int .i64 now, .slice a n cap], .int .i64 k] w fun e w' => e = .returned (.int .i64 (k + 2 * n)) ∧ Chg B H w w' ∧ Ow 2 w' B a n (mkG k 2) := by
  have hb0 := bpush (Below.refl w.heap.size w) (Obj.cells #[.int .i64 now, .slice a n cap] 42)
  have HO := Lib.hid (hO.below hb0)
  have HS := Lib.hid (hS.below (hb0.mono hH))
  clear hO hS
  go_enter Try.func25, Try.ntmps25
  go_wp2_with fail
  refine (markTkS_c k hk0 hk1 a n cap B H g _ hn HO.out HS.out).mono ?_
  rintro e w1 ⟨rfl, hc1, hO1⟩
  go_wp2_with fail
  go_ret
  exact ⟨rfl, (Chg.of_below hb0).trans hc1, hO1⟩

theorem heldReg_c (k now : Int) (hk0 : 0 ≤ k) (hk1 : k ≤ 1000000000) (a : Option Addr) (n cap : Nat) (w : World) (hn : n ≤ 1048576) (hS : Sl 2 w w.heap.size a n (mkG k 2)) :
    Calls Try.prog 26 #[.agg #[.int .i64 now, .slice a n cap], .int .i64 k] w fun e w' => e = .returned (.int .i64 (k + 2 * n)) ∧ Below w.heap.size w w' := by
  have hb0 := bpush (Below.refl w.heap.size w) (Obj.cells #[.int .i64 now, .slice a n cap] 42)
  have HS := Lib.hid ((hS.below hb0).mono hb0.size)
  clear hS
  go_enter Try.func26, Try.ntmps26
  go_wp2_with fail
  refine (heldTkS_c k hk0 hk1 a n cap _ hn HS.out).mono ?_
  rintro e w1 ⟨rfl, rfl⟩
  go_wp2_with fail
  go_ret
  exact ⟨rfl, hb0⟩
end Go.Proofs.Ytjlaikmilcgmhaa
