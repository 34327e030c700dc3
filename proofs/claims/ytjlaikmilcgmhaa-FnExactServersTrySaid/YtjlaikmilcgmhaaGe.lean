/- Registers laid anew, compared, measured. -/
import Derived.Test.YtjlaikmilcgmhaaGa
import Derived.Test.YtjlaikmilcgmhaaGo
import Derived.Test.YtjlaikmilcgmhaaTi
import Derived.OwnWalk
import Derived.Deep.RegionLaw
namespace Go.Proofs.Ytjlaikmilcgmhaa
open Go.RowKit
set_option linter.unusedVariables false

theorem infoTk : (Try.prog.info? 30).map (fun i => (i.zero, i.size, i.bytes)) = some (some (.agg #[.int .i64 0, .int .i64 0]), 2, 16) := by kernel_rfl
theorem set2 {cs : Array Value} {n k : Nat} {g : Nat → Nat → Value} (hs : cs.size = n * 2) (hk : k < n) (h : ∀ i, i < k → ∀ j, j < 2 → cs[i * 2 + j]? = some (g i j))
    {v0 v1 : Value} (e0 : g k 0 = v0) (e1 : g k 1 = v1) :
    ∀ i, i < k + 1 → ∀ j, j < 2 → ((cs.setIfInBounds (k * 2) v0).setIfInBounds (k * 2 + 1) v1)[i * 2 + j]? = some (g i j) := by
  subst e0 e1
  intro i hi j hj
  by_cases e : i = k
  · subst e
    match j, hj with
    | 0, _ => simp [Array.getElem?_setIfInBounds]; omega
    | 1, _ => simp [Array.getElem?_setIfInBounds]; omega
  · have := h i (by omega) j hj
    simp only [Array.getElem?_setIfInBounds]
    rw [if_neg (by omega), if_neg (by omega)]
    exact this
theorem eqTk_c (x y : Int) (w : World) :
    Calls Try.prog 53 #[.agg #[.int .i64 x, .int .i64 y], .agg #[.int .i64 x, .int .i64 y]] w fun e w' => e = .returned (.bool true) ∧ Below w.heap.size w w' := by
  go_enter Try.func53, Try.ntmps53
  go_wp2
  go_ret
  exact ⟨rfl, bpush (bpush (Below.refl w.heap.size w) _) _⟩

set_option maxHeartbeats 1000000 in
theorem toTkS_c (a : Option Addr) (n cap : Nat) (l : List (Int × Int)) (w : World) (hl : l.length = n) (hn : n ≤ 1048576) (S : Sl 2 w w.heap.size a n (tkG l)) :
    Calls Try.prog 41 #[.slice a n cap] w fun e w' => ∃ a', e = .returned (.slice a' n n) ∧ Below w.heap.size w w' ∧ Ow 2 w' w.heap.size a' n (tkG l) := by
  obtain ⟨i0, hi0, hz0, hs0, hb0⟩ := info_parts infoTk
  have HS := Lib.hid S; clear S
  go_enter Try.func41, Try.ntmps41
  go_wp2_with (first | (at_make; refine wpList_make_full w rfl _ _ _ rfl w.heap.size _ i0 _ 2 Try.underlying40 hi0 hz0 hs0 _ _ _ _ n rfl rfl rfl rfl (by rw [hb0]; omega) (by unfold maxLen; omega) (Nat.le_refl _) ?_; intro w1 hown hgrow) | fail)
  obtain ⟨cur, B1, hcur⟩ := owns_blk hown
  have hb1 := grown_below hgrow
  clear hown hgrow
  go_loopw [4] (fun i wr => ∃ k : Nat, k ≤ n ∧ i = .int .i64 k ∧ Below w.heap.size w wr ∧ ∃ cs : Array Value, Blk wr w.heap.size cs 30 ∧ cs.size = n * 2 ∧ ∀ i, i < k → ∀ j, j < 2 → cs[i * 2 + j]? = some (tkG l i j)) (fun i _ => n - (intOf i).toNat)
  case atStart => exact ⟨0, by omega, rfl, hb1, cur, B1, hcur, fun i hi => by omega⟩
  case round =>
    obtain ⟨k, hk, rfl, hbk, cs, Bk, hcs, hall⟩ := hrel
    clear hb1 B1
    by_cases hlt : k < n
    · have hki : (k : Int) < (n : Int) := by omega
      obtain ⟨b, off, rfl, hB, hc⟩ := (HS.out.below hbk).at hlt
      have x0 := hc k hlt 0 (by omega)
      have x1 := hc k hlt 1 (by omega)
      obtain ⟨p, hp⟩ : ∃ p, l.getD k (0, 0) = p := ⟨_, rfl⟩
      simp only [tkG, Nat.add_zero, hp] at x0 x1
      have HP := Lib.hid hp
      clear hc hp
      go_wp2_with fail
      refine (toTicket_c _ _ _).mono ?_
      rintro e w2 ⟨rfl, hb2⟩
      have B2 := Bk.below hb2
      obtain ⟨v0, e0⟩ := arr_some (show k * 2 < cs.size by omega)
      obtain ⟨v1, e1⟩ := arr_some (show k * 2 + 1 < cs.size by omega)
      have c0 := B2.cell _ e0
      have c1 := B2.cell _ e1
      have f0 := B2.free (k * 2)
      have f1 := B2.free (k * 2 + 1)
      go_wp2_with fail
      go_roundw
      case rel =>
        have R := set2 hcs hlt hall (v0 := .int .i64 p.1) (v1 := .int .i64 p.2) (by simp only [tkG, HP.out]) (by simp only [tkG, HP.out])
        have D := (B2.set (k * 2) (.int .i64 p.1)).set (k * 2 + 1) (.int .i64 p.2)
        have hb := bstep hbk hb2
        clear hall HS hbk hb2 e0 e1 x0 x1 c0 c1 f0 f1
        refine ⟨k + 1, by omega, by go_num, ?_, ?_⟩
        · repeat (first | with_reducible exact hb | with_reducible refine Below.setCell ?_ (by simp <;> omega) _)
        · with_reducible exact ⟨_, D, by simp [hcs], R⟩
      case measure => simp [intOf]; omega
    · obtain rfl : k = n := by omega
      go_wp2_with fail
      go_ret
      exact ⟨_, rfl, hbk, by omega, .inr ⟨_, cs, _, rfl, Nat.le_refl _, Bk, hall⟩⟩

set_option maxHeartbeats 1000000 in
theorem eqTkS_c (a a' : Option Addr) (n cap cap' : Nat) (l : List (Int × Int)) (w : World) (S : Sl 2 w w.heap.size a n (tkG l)) (S' : Sl 2 w w.heap.size a' n (tkG l)) :
    Calls Try.prog 44 #[.slice a n cap, .slice a' n cap'] w fun e w' => e = .returned (.bool true) ∧ Below w.heap.size w w' := by
  have hn := S.len
  have HS := Lib.hid S; clear S
  have HS' := Lib.hid S'; clear S'
  have hb0 := Below.refl w.heap.size w
  go_enter Try.func44, Try.ntmps44
  go_wp2_with fail
  go_loopw [5] (fun i wr => ∃ k : Nat, k ≤ n ∧ i = .int .i64 k ∧ Below w.heap.size w wr) (fun i _ => n - (intOf i).toNat)
  case atStart => exact ⟨0, by omega, rfl, hb0⟩
  case round =>
    obtain ⟨k, hk, rfl, hbk⟩ := hrel
    clear hb0
    by_cases hlt : k < n
    · have hki : (k : Int) < (n : Int) := by omega
      obtain ⟨b, off, rfl, hB, hc⟩ := (HS.out.below hbk).at hlt
      obtain ⟨b', off', rfl, hB', hc'⟩ := (HS'.out.below hbk).at hlt
      obtain ⟨p, hp⟩ : ∃ p, l.getD k (0, 0) = p := ⟨_, rfl⟩
      have x0 := hc k hlt 0 (by omega)
      have x1 := hc k hlt 1 (by omega)
      have y0 := hc' k hlt 0 (by omega)
      have y1 := hc' k hlt 1 (by omega)
      simp only [tkG, Nat.add_zero, hp] at x0 x1 y0 y1
      clear hc hc' hp HS HS'
      go_wp2_with fail
      go_region_law (first | (go_simp; go_at_call 53; with_reducible refine (eqTk_c _ _ _).mono ?_; rintro e1 w2 ⟨rfl, hb2⟩))
      all_goals
        go_wp2_with fail
        go_roundw
        case rel => exact ⟨k + 1, by omega, by go_num, bstep (bdrew hbk) hb2⟩
        case measure => simp [intOf]; omega
    · obtain rfl : k = n := by omega
      go_wp2_with fail
      go_ret
      exact ⟨rfl, hbk⟩

theorem toReg_c (now : Int) (a : Option Addr) (n cap : Nat) (l : List (Int × Int)) (w : World) (hl : l.length = n) (hn : n ≤ 1048576) (S : Sl 2 w w.heap.size a n (tkG l)) :
    Calls Try.prog 18 #[.agg #[.int .i64 now, .slice a n cap]] w fun e w' => ∃ a', e = .returned (.agg #[.int .i64 now, .slice a' n n]) ∧ Below w.heap.size w w' ∧ Ow 2 w' w.heap.size a' n (tkG l) := by
  have hb0 := bpush (bpush (bpush (Below.refl w.heap.size w) (Obj.cells #[.int .i64 now, .slice a n cap] 37)) (Obj.cells #[.int .i64 0, .slice none 0 0] 42)) (Obj.cells #[.int .i64 now, .slice none 0 0] 42)
  have S1 := Lib.hid ((S.below hb0).mono hb0.size)
  clear S
  go_enter Try.func18, Try.ntmps18
  go_wp2_with fail
  refine (toTkS_c _ _ _ l _ hl hn S1.out).mono ?_
  rintro e w1 ⟨a', rfl, hb1, hp⟩
  have B0 := (((Blk.new w #[.int .i64 now, .slice a n cap] 37).alloc (Obj.cells #[.int .i64 0, .slice none 0 0] 42)).alloc (Obj.cells #[.int .i64 now, .slice none 0 0] 42)).below hb1
  have B1 := ((Blk.new (w.alloc (Obj.cells #[.int .i64 now, .slice a n cap] 37)) #[.int .i64 0, .slice none 0 0] 42).alloc (Obj.cells #[.int .i64 now, .slice none 0 0] 42)).below hb1
  have B2 := (Blk.new ((w.alloc (Obj.cells #[.int .i64 now, .slice a n cap] 37)).alloc (Obj.cells #[.int .i64 0, .slice none 0 0] 42)) #[.int .i64 now, .slice none 0 0] 42).below hb1
  simp only [World.size_alloc] at B0 B1 B2 hp
  have hbw := bstep hb0 hb1
  have a1 := B0.cell 1 rfl
  have b0 := B1.cell 0 rfl
  have b1 := B1.cell 1 rfl
  have c0 := B2.cell 0 rfl
  have c1 := B2.cell 1 rfl
  have f0 := B1.free 0
  have f1 := B1.free 1
  have g0 := B2.free 0
  have g1 := B2.free 1
  go_wp2_with fail
  refine bodyPost_ret (v := .agg #[.int .i64 now, .slice a' n n]) ?_ rfl ⟨a', rfl, ?_, ?_⟩
  · simp only [results, Try.results18]
    go_simp
  · repeat (first | with_reducible exact hbw | with_reducible refine Below.setCell ?_ (by simp <;> omega) _)
  · refine Ow.mono (Ow.chg hp (lo := w.heap.size) (hi := w.heap.size + 1 + 1 + 1) ?_ (Nat.le_refl _)) (by omega)
    repeat (first | with_reducible exact Chg.refl _ _ _ | with_reducible refine Chg.set ?_ (.inl (by simp <;> omega)) _ _)

theorem eqReg_c (now : Int) (a a' : Option Addr) (n cap cap' : Nat) (l : List (Int × Int)) (w : World) (S : Sl 2 w w.heap.size a n (tkG l)) (S' : Sl 2 w w.heap.size a' n (tkG l)) :
    Calls Try.prog 20 #[.agg #[.int .i64 now, .slice a n cap], .agg #[.int .i64 now, .slice a' n cap']] w fun e w' => e = .returned (.bool true) ∧ Below w.heap.size w w' := by
  have hb0 := bpush (bpush (Below.refl w.heap.size w) (Obj.cells #[.int .i64 now, .slice a n cap] 42)) (Obj.cells #[.int .i64 now, .slice a' n cap'] 42)
  have S1 := Lib.hid ((S.below hb0).mono hb0.size)
  have S2 := Lib.hid ((S'.below hb0).mono hb0.size)
  clear S S'
  go_enter Try.func20, Try.ntmps20
  go_wp2_with fail
  refine (eqTkS_c _ _ _ _ _ l _ S1.out S2.out).mono ?_
  rintro e w1 ⟨rfl, hb1⟩
  go_wp2_with fail
  go_ret
  exact ⟨rfl, bstep hb0 hb1⟩

def szF (left : Int) (n : Nat) : Int := if left < (n : Int) then -1 else left - n
theorem szTkS_c (left : Int) (a : Option Addr) (n cap : Nat) (w : World) (h0 : 0 ≤ left) (h1 : left ≤ 1048576) (hn : (n : Int) ≤ 9223372036854775807) :
    Calls Try.prog 39 #[.slice a n cap, .int .i64 left] w fun e w' => e = .returned (.int .i64 (szF left n)) ∧ w = w' := by
  by_cases h : left < (n : Int)
  · have E : szF left n = -1 := by unfold szF; rw [if_pos h]
    rw [E]
    go_enter Try.func39, Try.ntmps39
    go_wp2
    go_ret
    exact ⟨rfl, rfl⟩
  · have E : szF left n = left - n := by unfold szF; rw [if_neg h]
    rw [E]
    go_enter Try.func39, Try.ntmps39
    go_wp2
    go_ret
    exact ⟨rfl, rfl⟩
theorem szReg_c (now left : Int) (a : Option Addr) (n cap : Nat) (w : World) (h0 : 0 ≤ left) (h1 : left ≤ 1048576) (hn : (n : Int) ≤ 9223372036854775807) :
    Calls Try.prog 16 #[.agg #[.int .i64 now, .slice a n cap], .int .i64 left] w fun e w' => e = .returned (.int .i64 (szF left n)) ∧ Below w.heap.size w w' := by
  by_cases h : left < (n : Int)
  · have E : szF left n = -1 := by unfold szF; rw [if_pos h]
    have H := Lib.hid (fun w => szTkS_c left a n cap w h0 h1 hn)
    rw [E] at H ⊢
    go_enter Try.func16, Try.ntmps16
    go_wp2_with fail
    refine (H.out _).mono ?_
    rintro e w1 ⟨rfl, rfl⟩
    go_wp2
    go_ret
    exact ⟨rfl, bpush (Below.refl _ _) _⟩
  · have E : szF left n = left - n := by unfold szF; rw [if_neg h]
    have H := Lib.hid (fun w => szTkS_c left a n cap w h0 h1 hn)
    rw [E] at H ⊢
    go_enter Try.func16, Try.ntmps16
    go_wp2_with fail
    refine (H.out _).mono ?_
    rintro e w1 ⟨rfl, rfl⟩
    go_wp2
    go_ret
    exact ⟨rfl, bpush (Below.refl _ _) _⟩
end Go.Proofs.Ytjlaikmilcgmhaa
