/- Boxes and numbers laid anew, compared, measured. -/
import Derived.Test.YtdnkopnhpffcdaaVn
namespace Go.Proofs.Ytdnkopnhpffcdaa
open Go.RowKit
set_option linter.unusedVariables false

/-- A slice that is a whole block of one's own, from B to H. -/
def OwT (T : TypeId) (w : World) (B H : Nat) (a : Option Addr) (l : List Int) : Prop :=
  ∃ (b : Nat) (cs : Array Value), a = some ⟨b, 0, none⟩ ∧ B ≤ b ∧ b < H ∧ Blk w b cs T ∧ cs.size = l.length ∧ ∀ i, i < l.length → cs[i]? = some (.int .i64 (l.getD i 0))
theorem OwT.below {T : TypeId} {w w' : World} {B H : Nat} {a : Option Addr} {l : List Int} (h : OwT T w B H a l) (hb : Below w.heap.size w w') : OwT T w' B H a l := by
  obtain ⟨b, cs, e, h1, h2, hk, hs, hc⟩ := h
  exact ⟨b, cs, e, h1, h2, hk.below hb, hs, hc⟩
theorem OwT.mono {T : TypeId} {w : World} {B H B' H' : Nat} {a : Option Addr} {l : List Int} (h : OwT T w B H a l) (hB : B' ≤ B) (hH : H ≤ H') : OwT T w B' H' a l := by
  obtain ⟨b, cs, e, h1, h2, hk, hs, hc⟩ := h
  exact ⟨b, cs, e, by omega, by omega, hk, hs, hc⟩
theorem OwT.sl {T : TypeId} {w : World} {B H : Nat} {a : Option Addr} {l : List Int} (h : OwT T w B H a l) (hn : l.length ≤ 1048576) : Sl 1 w w.heap.size a l.length (inG l) := by
  obtain ⟨b, cs, rfl, h1, h2, hk, hs, hc⟩ := h
  refine ⟨by omega, .inr ⟨b, 0, rfl, hk.lt, fun i hi j hj => ?_⟩⟩
  obtain rfl : j = 0 := by omega
  rw [Nat.zero_add, Nat.mul_one, Nat.add_zero]
  exact hk.cell i (hc i hi)

theorem toI_c (a : Option Addr) (n cap : Nat) (l : List Int) (w : World) (hl : l.length = n) (hn : n ≤ 1048576) (S : Sl 1 w w.heap.size a n (inG l)) :
    Calls Try.prog 23 #[.slice a n cap] w fun e w' => ∃ a', e = .returned (.slice a' n n) ∧ Below w.heap.size w w' ∧ OwT 3 w' w.heap.size w'.heap.size a' l := by
  obtain ⟨i0, hi0, hz0, hs0, hb0⟩ := info_parts infoIn
  have HS := Lib.hid S; clear S
  go_enter Try.func23, Try.ntmps23
  go_wp2_with (first | (at_make; refine wpList_make_full w rfl _ _ _ rfl w.heap.size _ i0 _ 1 Try.underlying24 hi0 hz0 hs0 _ _ _ _ n rfl rfl rfl rfl (by rw [hb0]; omega) (by unfold maxLen; omega) (Nat.le_refl _) ?_; intro w1 hown hgrow) | fail)
  obtain ⟨cur, B1, hcur⟩ := owns_blk hown
  have hb1 := grown_below hgrow
  clear hown hgrow hi0 hz0 hs0 hb0
  go_loopw [4] (fun i wr => ∃ k : Nat, k ≤ n ∧ i = .int .i64 k ∧ Below w.heap.size w wr ∧ ∃ cs : Array Value, Blk wr w.heap.size cs 3 ∧ cs.size = n ∧ ∀ i, i < k → cs[i]? = some (.int .i64 (l.getD i 0))) (fun i _ => n - (intOf i).toNat)
  case atStart => exact ⟨0, by omega, rfl, hb1, cur, B1, by omega, fun i hi => by omega⟩
  case round =>
    obtain ⟨k, hk, rfl, hbk, cs, Bk, hcs, hall⟩ := hrel
    clear hb1 B1
    by_cases hlt : k < n
    · have hki : (k : Int) < (n : Int) := by omega
      obtain ⟨b, off, rfl, hB, hc⟩ := is_at (HS.out.below hbk) hlt
      have x0 := hc k hlt
      obtain ⟨p, hp⟩ : ∃ p, l.getD k 0 = p := ⟨_, rfl⟩
      rw [hp] at x0
      have HP := Lib.hid hp
      obtain ⟨v0, e0⟩ := arr_some (show k < cs.size by omega)
      have c0 := Bk.cell _ e0
      have f0 := Bk.free k
      have q := Bk.lt
      have D := Lib.hid (Bk.set k (.int .i64 p))
      have HA : RowKit.Hid (∀ i, i < k + 1 → (cs.setIfInBounds k (.int .i64 p))[i]? = some (.int .i64 (l.getD i 0))) := Lib.hid (fun i hi => by
        by_cases e : i = k
        · subst e; rw [HP.out, Array.getElem?_setIfInBounds_self_of_lt (by omega)]
        · rw [Array.getElem?_setIfInBounds_ne (by omega)]; exact hall i (by omega))
      clear hc hp hall e0 Bk
      go_wp2_with fail
      go_roundw
      case rel => exact ⟨k + 1, by omega, by go_num, Below.setCell hbk (by simp) _, _, D.out, by simpa using hcs, HA.out⟩
      case measure => simp [intOf]; omega
    · obtain rfl : k = n := by omega
      have q := Bk.lt
      go_wp2_with fail
      go_ret
      exact ⟨_, rfl, hbk, _, cs, rfl, Nat.le_refl _, q, Bk, by omega, by rw [hl]; exact hall⟩
theorem eqI_c (a a' : Option Addr) (n cap cap' : Nat) (l : List Int) (w : World) (S : Sl 1 w w.heap.size a n (inG l)) (S' : Sl 1 w w.heap.size a' n (inG l)) :
    Calls Try.prog 26 #[.slice a n cap, .slice a' n cap'] w fun e w' => e = .returned (.bool true) ∧ Below w.heap.size w w' := by
  have HS := Lib.hid S
  have HS' := Lib.hid S'
  have hn := S.len
  clear S S'
  go_enter Try.func26, Try.ntmps26
  go_wp2_with fail
  go_loopw [5] (fun i wr => ∃ k : Nat, k ≤ n ∧ i = .int .i64 k ∧ Below w.heap.size w wr) (fun i _ => n - (intOf i).toNat)
  case atStart => exact ⟨0, by omega, rfl, Below.refl _ _⟩
  case round =>
    obtain ⟨k, hk, rfl, hb⟩ := hrel
    by_cases hlt : k < n
    · have hki : (k : Int) < (n : Int) := by omega
      obtain ⟨b, off, rfl, hB, hc⟩ := is_at (HS.out.below hb) hlt
      obtain ⟨b', off', rfl, hB', hc'⟩ := is_at (HS'.out.below hb) hlt
      have x := hc k hlt
      have y := hc' k hlt
      obtain ⟨p, hp⟩ : ∃ p, l.getD k 0 = p := ⟨_, rfl⟩
      rw [hp] at x y
      clear hc hc' hp
      go_wp2_with fail
      go_quiet (fail)
      go_wp2_with fail
      go_roundw
      case rel => exact ⟨k + 1, by omega, by go_num, bdrewN hb _⟩
      case measure => simp [intOf]; omega
    · obtain rfl : k = n := by omega
      go_wp2_with fail
      go_ret
      exact ⟨rfl, hb⟩
theorem szI_c (left : Int) (a : Option Addr) (n cap : Nat) (w : World) (h0 : 0 ≤ left) (h1 : left ≤ 1048576) (hn : (n : Int) ≤ 9223372036854775807) :
    Calls Try.prog 56 #[.slice a n cap, .int .i64 left] w fun e w' => (∃ r : Int, e = .returned (.int .i64 r) ∧ (r = -1 ∨ (0 ≤ r ∧ r + n = left))) ∧ w = w' := by
  by_cases h : left < (n : Int)
  · go_enter Try.func56, Try.ntmps56
    go_wp2
    go_ret
    exact ⟨⟨_, rfl, .inl rfl⟩, rfl⟩
  · go_enter Try.func56, Try.ntmps56
    go_wp2
    go_ret
    exact ⟨⟨_, rfl, .inr ⟨by omega, by omega⟩⟩, rfl⟩
/-- Numbers are marked: only their block turns. -/
theorem markI_c (k : Int) (hk0 : 0 ≤ k) (hk1 : k ≤ 1000000000) (b n cap : Nat) (cs0 : Array Value) (T : TypeId) (w : World) (hn : n ≤ 1048576) (B0 : Blk w b cs0 T) (hsz : n ≤ cs0.size) :
    Calls Try.prog 32 #[.slice (some ⟨b, 0, none⟩) n cap, .int .i64 k] w fun e w' => e = .returned (.int .i64 (k + n)) ∧ Only b w w' ∧ ∃ cs : Array Value, Blk w' b cs T ∧ cs.size = cs0.size ∧ ∀ i : Nat, i < n → cs[i]? = some (.int .i64 (k + (i : Int))) := by
  go_enter Try.func32, Try.ntmps32
  go_wp2_with fail
  go_loopw [1, 5] (fun q i wr => ∃ m : Nat, m ≤ n ∧ i = .int .i64 m ∧ q = .int .i64 (k + (m : Int)) ∧ Only b w wr ∧ ∃ cs : Array Value, Blk wr b cs T ∧ cs.size = cs0.size ∧ ∀ i : Nat, i < m → cs[i]? = some (.int .i64 (k + (i : Int)))) (fun _ i _ => n - (intOf i).toNat)
  case atStart => exact ⟨0, by omega, rfl, by simp, ⟨rfl, rfl, rfl, rfl, fun _ _ => rfl⟩, cs0, B0, rfl, fun i hi => by omega⟩
  case round =>
    obtain ⟨m, hm, rfl, rfl, hO, cs, Bk, hcs, hall⟩ := hrel
    clear B0
    by_cases hlt : m < n
    · have hki : (m : Int) < (n : Int) := by omega
      obtain ⟨v0, e0⟩ := arr_some (show m < cs.size by omega)
      have c0 := Bk.cell _ e0
      have f0 := Bk.free m
      have q := Bk.lt
      have D := Lib.hid (Bk.set m (.int .i64 (k + (m : Int))))
      have HA : RowKit.Hid (∀ i : Nat, i < m + 1 → (cs.setIfInBounds m (.int .i64 (k + (m : Int))))[i]? = some (.int .i64 (k + (i : Int)))) := Lib.hid (fun i hi => by
        by_cases e : i = m
        · subst e; rw [Array.getElem?_setIfInBounds_self_of_lt (by omega)]
        · rw [Array.getElem?_setIfInBounds_ne (by omega)]; exact hall i (by omega))
      have HO := Lib.hid (fun v => (⟨hO.os, hO.tape, hO.output, by rw [← hO.size]; simp [World.setCell], fun x hx => (Below.heap_setCell wr _ v x (by simpa using hx)).trans (hO.block x hx)⟩ : Only b w (wr.setCell ⟨b, m, none⟩ v)))
      clear hall e0 Bk hO
      go_wp2_with fail
      go_roundw
      case rel => exact ⟨m + 1, by omega, by go_num, by congr 1; omega, HO.out _, _, D.out, by simpa using hcs, HA.out⟩
      case measure => simp [intOf]; omega
    · obtain rfl : m = n := by omega
      go_wp2_with fail
      go_ret
      exact ⟨rfl, hO, cs, Bk, hcs, hall⟩
theorem markI0_c (k : Int) (hk0 : 0 ≤ k) (hk1 : k ≤ 1000000000) (a : Option Addr) (cap : Nat) (w : World) :
    Calls Try.prog 32 #[.slice a 0 cap, .int .i64 k] w fun e w' => e = .returned (.int .i64 k) ∧ w = w' := by
  go_enter Try.func32, Try.ntmps32
  go_wp2
  go_loop [1, 5] (fun q i => q = .int .i64 k ∧ i = .int .i64 0) (fun _ _ => 0)
  case atStart => exact ⟨rfl, rfl⟩
  case round =>
    obtain ⟨rfl, rfl⟩ := hrel
    go_wp2
    go_ret
    exact ⟨rfl, rfl⟩
def mkI (k : Int) (i j : Nat) : Value := .int .i64 (k + (i : Int))
theorem heldI_c (k : Int) (hk0 : 0 ≤ k) (hk1 : k ≤ 1000000000) (a : Option Addr) (n cap : Nat) (w : World) (hn : n ≤ 1048576) (hS : Sl 1 w w.heap.size a n (mkI k)) :
    Calls Try.prog 33 #[.slice a n cap, .int .i64 k] w fun e w' => e = .returned (.int .i64 (k + n)) ∧ w = w' := by
  have HS := Lib.hid hS
  clear hS
  go_enter Try.func33, Try.ntmps33
  go_wp2_with fail
  go_loop [1, 5] (fun q i => ∃ m : Nat, m ≤ n ∧ i = .int .i64 m ∧ q = .int .i64 (k + (m : Int))) (fun _ i => n - (intOf i).toNat)
  case atStart => exact ⟨0, by omega, rfl, by simp⟩
  case round =>
    obtain ⟨m, hm, rfl, rfl⟩ := hrel
    by_cases hlt : m < n
    · have hki : (m : Int) < (n : Int) := by omega
      obtain ⟨b, off, rfl, hB, hc⟩ := HS.out.at hlt
      have x0 : w.cell? ⟨b, off + m, none⟩ = some (.int .i64 (k + (m : Int))) := by have := hc m hlt 0 (by omega); rwa [Nat.mul_one, Nat.add_zero] at this
      clear hc
      go_wp2_with fail
      go_roundw
      case rel => exact ⟨m + 1, by omega, by go_num, by congr 1; omega⟩
      case measure => simp [intOf]; omega
    · obtain rfl : m = n := by omega
      go_wp2_with fail
      go_ret
      exact ⟨rfl, rfl⟩
end Go.Proofs.Ytdnkopnhpffcdaa
