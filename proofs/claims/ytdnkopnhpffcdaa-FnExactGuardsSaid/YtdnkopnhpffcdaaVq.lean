/- Boxes compared, measured, marked. -/
import Derived.Test.YtdnkopnhpffcdaaVp
namespace Go.Proofs.Ytdnkopnhpffcdaa
open Go.RowKit
set_option linter.unusedVariables false

theorem eqB_c (key : Int) (a a' : Option Addr) (n cap cap' : Nat) (l : List Int) (w : World) (S : Sl 1 w w.heap.size a n (inG l)) (S' : Sl 1 w w.heap.size a' n (inG l)) :
    Calls Try.prog 51 #[.agg #[.int .i64 key, .slice a n cap], .agg #[.int .i64 key, .slice a' n cap']] w fun e w' => e = .returned (.bool true) ∧ Below w.heap.size w w' := by
  have hb0 := bpush (bpush (Below.refl w.heap.size w) (Obj.cells #[.int .i64 key, .slice a n cap] 33)) (Obj.cells #[.int .i64 key, .slice a' n cap'] 33)
  have S1 := Lib.hid ((S.below hb0).mono hb0.size)
  have S2 := Lib.hid ((S'.below hb0).mono hb0.size)
  clear S S'
  go_enter Try.func51, Try.ntmps51
  go_wp2_with fail
  refine (eqI_c _ _ _ _ _ l _ S1.out S2.out).mono ?_
  rintro e w1 ⟨rfl, hb1⟩
  go_wp2_with fail
  go_ret
  exact ⟨rfl, bstep hb0 hb1⟩
set_option maxHeartbeats 1000000 in
theorem eqBS_c (a a' : Option Addr) (n cap cap' : Nat) (bs : BX) (w : World) (HB : Ns 1 inG w w.heap.size a n bs) (HB' : Ns 1 inG w w.heap.size a' n bs) :
    Calls Try.prog 25 #[.slice a n cap, .slice a' n cap'] w fun e w' => e = .returned (.bool true) ∧ Below w.heap.size w w' := by
  have hn := HB.len
  have HN := Lib.hid HB
  have HN' := Lib.hid HB'
  have hb0 := Below.refl w.heap.size w
  clear HB HB'
  go_enter Try.func25, Try.ntmps25
  go_wp2_with fail
  go_loopw [5] (fun i wr => ∃ k : Nat, k ≤ n ∧ i = .int .i64 k ∧ Below w.heap.size w wr) (fun i _ => n - (intOf i).toNat)
  case atStart => exact ⟨0, by omega, rfl, hb0⟩
  case round =>
    obtain ⟨k, hk, rfl, hbk⟩ := hrel
    clear hb0
    by_cases hlt : k < n
    · have hki : (k : Int) < (n : Int) := by omega
      obtain ⟨b, off, a2, c2, rfl, hB, x0, x1, hc, hs⟩ := (HN.out.below hbk).at hlt
      obtain ⟨b', off', a3, c3, rfl, hB', y0, y1, hc', hs'⟩ := (HN'.out.below hbk).at hlt
      obtain ⟨bx, hbx⟩ : ∃ p, bs.getD k (0, []) = p := ⟨_, rfl⟩
      rw [hbx] at x0 x1 hc hs y0 y1 hc' hs'
      have HE := Lib.hid (eqB_c bx.1 a2 a3 bx.2.length c2 c3 bx.2 wr.drew (hs.mono hbk.size) (hs'.mono hbk.size))
      clear hbx hc hs hc' hs' HN HN'
      go_wp2_with fail
      go_region_law (first | (go_simp; go_at_call 51; with_reducible refine HE.out.mono ?_; rintro e1 w2 ⟨rfl, hb2⟩))
      all_goals
        go_wp2_with fail
        go_roundw
        case rel => exact ⟨k + 1, by omega, by go_num, bstep (bdrew hbk) hb2⟩
        case measure => simp [intOf]; omega
    · obtain rfl : k = n := by omega
      go_wp2_with fail
      go_ret
      exact ⟨rfl, hbk⟩
end Go.Proofs.Ytdnkopnhpffcdaa
