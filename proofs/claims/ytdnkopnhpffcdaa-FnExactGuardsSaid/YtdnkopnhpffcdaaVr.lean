/- Boxes compared, measured, marked. -/
import Derived.Test.YtdnkopnhpffcdaaVp
namespace Go.Proofs.Ytdnkopnhpffcdaa
open Go.RowKit
set_option linter.unusedVariables false

theorem szB_c (key left : Int) (a : Option Addr) (n cap : Nat) (w : World) (h0 : 0 ≤ left) (h1 : left ≤ 1048576) (hn : (n : Int) ≤ 9223372036854775807) :
    Calls Try.prog 47 #[.agg #[.int .i64 key, .slice a n cap], .int .i64 left] w fun e w' => ∃ r : Int, e = .returned (.int .i64 r) ∧ (r = -1 ∨ (0 ≤ r ∧ r + n = left)) ∧ Below w.heap.size w w' := by
  have H := Lib.hid (fun w => szI_c left a n cap w h0 h1 hn)
  go_enter Try.func47, Try.ntmps47
  go_wp2_with fail
  refine (H.out _).mono ?_
  rintro e w1 ⟨⟨r, rfl, hr⟩, rfl⟩
  rcases hr with rfl | ⟨hr1, hr2⟩
  · go_wp2
    go_ret
    exact ⟨_, rfl, .inl rfl, bpush (Below.refl _ _) _⟩
  · have hr3 : ¬ r < 0 := by omega
    go_wp2
    go_ret
    exact ⟨_, rfl, .inr ⟨hr1, hr2⟩, bpush (Below.refl _ _) _⟩
def sumk (bs : BX) (k : Nat) : Nat := ((bs.take k).map fun b => b.2.length).sum
theorem sumk_succ {bs : BX} {k : Nat} (hk : k < bs.length) : sumk bs (k + 1) = sumk bs k + (bs.getD k (0, [])).2.length := by
  unfold sumk; rw [take_snoc (d := (0, [])) hk]; simp
theorem sumk_all (bs : BX) : tot bs = bs.length + sumk bs bs.length := by unfold tot sumk; rw [List.take_length]
theorem sumk_le (bs : BX) (k : Nat) (hk : k ≤ bs.length) : sumk bs k ≤ sumk bs bs.length := by
  unfold sumk
  rw [List.take_length]
  have e : bs = bs.take k ++ bs.drop k := (List.take_append_drop k bs).symm
  have h2 : (bs.map fun b => b.2.length).sum = ((bs.take k).map fun b => b.2.length).sum + ((bs.drop k).map fun b => b.2.length).sum := by
    rw [← List.sum_append, ← List.map_append, List.take_append_drop]
  omega
set_option maxHeartbeats 1000000 in
theorem szBS_c (left : Int) (a : Option Addr) (n cap : Nat) (bs : BX) (w : World) (h0 : 0 ≤ left) (h1 : left ≤ 1048576) (HB : Ns 1 inG w w.heap.size a n bs) :
    Calls Try.prog 20 #[.slice a n cap, .int .i64 left] w fun e w' => ∃ r : Int, e = .returned (.int .i64 r) ∧ (r = -1 ∨ (0 ≤ r ∧ r + tot bs = left)) ∧ Below w.heap.size w w' := by
  have hn := HB.len
  have hnl := HB.length
  by_cases hlt0 : left < (n : Int)
  · clear HB
    go_enter Try.func20, Try.ntmps20
    go_wp2_with fail
    go_ret
    exact ⟨_, rfl, .inl rfl, Below.refl _ _⟩
  have HN := Lib.hid HB
  have HT := Lib.hid (sumk_all bs)
  clear HB
  go_enter Try.func20, Try.ntmps20
  go_wp2_with fail
  go_loopw [1, 5] (fun q i wr => ∃ (k : Nat) (r : Int), k ≤ n ∧ i = .int .i64 k ∧ q = .int .i64 r ∧ 0 ≤ r ∧ r + n + sumk bs k = left ∧ Below w.heap.size w wr) (fun _ i _ => n - (intOf i).toNat)
  case atStart => exact ⟨0, left - n, by omega, rfl, by first | rfl | (congr 1), by omega, by simp [sumk], Below.refl _ _⟩
  case round =>
    obtain ⟨k, r, hk, rfl, rfl, hr0, hr, hbk⟩ := hrel
    by_cases hlt : k < n
    · have hki : (k : Int) < (n : Int) := by omega
      obtain ⟨b, off, a2, c2, rfl, hB, x0, x1, hc, hs⟩ := (HN.out.below hbk).at hlt
      have hsk := sumk_succ (bs := bs) (k := k) (by omega)
      have hls := hs.len
      obtain ⟨bx, hbx⟩ : ∃ p, bs.getD k (0, []) = p := ⟨_, rfl⟩
      rw [hbx] at x0 x1 hc hs hsk hls
      have HS := Lib.hid hsk
      clear hbx hc hs hsk
      go_wp2_with fail
      refine (szB_c bx.1 r _ _ _ _ hr0 (by omega) hls).mono ?_
      rintro e w2 ⟨r2, rfl, hr2, hb2⟩
      rcases hr2 with rfl | ⟨hr3, hr4⟩
      · go_wp2_with fail
        go_ret
        exact ⟨_, rfl, .inl rfl, bstep hbk hb2⟩
      · have hr5 : ¬ r2 < 0 := by omega
        go_wp2_with fail
        go_roundw
        case rel => exact ⟨k + 1, r2, by omega, by go_num, rfl, hr3, by rw [HS.out]; omega, bstep hbk hb2⟩
        case measure => simp [intOf]; omega
    · obtain rfl : k = n := by omega
      go_wp2_with fail
      go_ret
      refine ⟨_, rfl, .inr ⟨hr0, ?_⟩, hbk⟩
      rw [HT.out, hnl]; omega
end Go.Proofs.Ytdnkopnhpffcdaa
