/- The sample of numbers. -/
import Derived.Test.YtghljfddgcclpaaYd
namespace Go.Proofs.Ytghljfddgcclpaa
open Go.RowKit
set_option linter.unusedVariables false

theorem infoIn : (Try.prog.info? 3).map (fun i => (i.zero, i.size, i.bytes)) = some (some (.int .i64 0), 1, 8) := by kernel_rfl
/-- Numbers as cells. -/
def ints (l : List Int) : List Value := l.map (Value.int .i64)
theorem ints_len (l : List Int) : (ints l).length = l.length := by simp [ints]
theorem ints_snoc (l : List Int) (x : Int) : ints (l ++ [x]) = ints l ++ [.int .i64 x] := by simp [ints]
def inG (l : List Int) (i j : Nat) : Value := .int .i64 (l.getD i 0)
theorem ints_at (l : List Int) : ∀ i, i < l.length → ∀ j, j < 1 → (ints l)[i * 1 + j]? = some (inG l i j) := by
  intro i hi j hj
  obtain rfl : j = 0 := by omega
  rw [Nat.mul_one, Nat.add_zero]
  unfold ints inG
  rw [List.getElem?_map, List.getElem?_eq_getElem hi, List.getD_eq_getElem?_getD, List.getElem?_eq_getElem hi]
  rfl
theorem isl_row {w : World} {base n cap : Nat} {a : Option Addr} {l : List Int} (h : w.ownsRow base 3 1 (.slice a n cap) n (ints l)) (hl : l.length = n) (hn : n ≤ 1048576) : Sl 1 w w.heap.size a n (inG l) :=
  (ow_of_row h (by omega) (fun i hi j hj => ints_at l i (by omega) j hj)).sl

set_option maxHeartbeats 4000000 in
theorem sample_c (w : World) :
    Calls Try.prog 9 #[] w fun e w' => ∃ (a : Option Addr) (c : Nat) (l : List Int), e = .returned (.slice a l.length c) ∧ l.length ≤ 1000 ∧ Below w.heap.size w w' ∧ Sl 1 w' w'.heap.size a l.length (inG l) := by
  obtain ⟨i0, hi0, hz0, hs0, hy0⟩ := info_parts infoIn
  have HI := Lib.hid hi0; have HZ := Lib.hid hz0; have HZ1 := Lib.hid hs0; have HY := Lib.hid hy0
  clear hi0 hz0 hs0 hy0
  have hb0 := bpush (Below.refl w.heap.size w) (Obj.cells #[.int .i64 (-1), .int .i64 999, .int .i64 1000, .int .i64 1001] 3)
  have own0 : (w.alloc (Obj.cells #[.int .i64 (-1), .int .i64 999, .int .i64 1000, .int .i64 1001] 3)).ownsRow w.heap.size 3 1 (.slice (some ⟨w.heap.size, 0, none⟩) (4 : Nat) 4) 4 (ints [-1, 999, 1000, 1001]) := World.ownsRow_lit w #[.int .i64 (-1), .int .i64 999, .int .i64 1000, .int .i64 1001] 4 (Nat.le_refl _) (by unfold maxLen; omega) rfl
  go_enter Try.func9, Try.ntmps9
  go_wp2_with fail
  go_loopw [1, 2] (fun v i wr => ∃ (k : Nat) (l : List Int), k ≤ 61 ∧ i = .int .i64 k ∧ l.length = k + 4 ∧ Below w.heap.size w wr ∧ wr.ownsRow w.heap.size 3 1 v (k + 4) (ints l)) (fun _ i _ => 62 - (intOf i).toNat)
  case atStart => exact ⟨0, [-1, 999, 1000, 1001], by omega, rfl, rfl, hb0, own0⟩
  case round =>
    obtain ⟨k, l, hk, rfl, hl, hb, own⟩ := hrel
    clear hb0 own0
    have HL := Lib.hid hl
    clear hl
    have hsz := hb.size
    by_cases hlt : k < 61
    · have hki : (k : Int) ≤ 60 := by omega
      have own1 := own.alloc (Obj.cells #[.int .i64 (k : Int)] 3)
      have N1 := Blk.new wr #[.int .i64 (k : Int)] 3
      have hb1 := bpush hb (Obj.cells #[.int .i64 (k : Int)] 3)
      clear own
      go_wp2_with (at_builtin; refine wpList_append_lies _ rfl _ _ _ rfl w.heap.size _ i0 _ 1 8 Try.underlying29 HI.out HZ.out HZ1.out HY.out rfl (by omega) _ _ _ rfl own1 ⟨wr.heap.size, 0, none⟩ 1 1 [.int .i64 (k : Int)] rfl rfl (World.news_of_block N1) (by simp [Value.oneCell']) (by omega) (by unfold maxLen; omega) (by omega) (by simp; omega) (wr.heap.size + 1) (by simp) ?_; intro g2 cap2 w2 own3 hgrow hat hg2)
      have hb3 := bchg hb1 (chg_grown own1 hgrow) (Nat.le_refl _)
      rw [← ints_snoc] at own3
      go_roundw
      case rel => exact ⟨k + 1, l ++ [(k : Int)], by omega, by go_num, by rw [List.length_append, HL.out]; rfl, hb3, by rw [show k + 1 + 4 = k + 4 + 1 by omega]; exact own3⟩
      case measure => simp [intOf]; omega
    · obtain rfl : k = 61 := by omega
      have own1 := own.alloc (Obj.cells #[.int .i64 997, .int .i64 998] 3)
      have N1 := Blk.new wr #[.int .i64 997, .int .i64 998] 3
      have hb1 := bpush hb (Obj.cells #[.int .i64 997, .int .i64 998] 3)
      clear own
      go_wp2_with (at_builtin; refine wpList_append_lies _ rfl _ _ _ rfl w.heap.size _ i0 _ 1 8 Try.underlying29 HI.out HZ.out HZ1.out HY.out rfl (by omega) _ _ _ rfl own1 ⟨wr.heap.size, 0, none⟩ 2 2 [.int .i64 997, .int .i64 998] rfl rfl (World.news_of_block N1) (by simp [Value.oneCell']) (by omega) (by unfold maxLen; omega) (by omega) (by simp; omega) (wr.heap.size + 1) (by simp) ?_; intro g2 cap2 w2 own3 hgrow hat hg2)
      have hb3 := bchg hb1 (chg_grown own1 hgrow) (Nat.le_refl _)
      have he : ints l ++ [.int .i64 997, .int .i64 998] = ints (l ++ [997, 998]) := by simp [ints]
      rw [he] at own3
      have hlen : (l ++ [(997 : Int), 998]).length = 67 := by rw [List.length_append, HL.out]; rfl
      have S3 := isl_row own3 hlen (by omega)
      go_ret
      exact ⟨some ⟨g2, 0, none⟩, cap2, l ++ [997, 998], by rw [hlen]; rfl, by omega, hb3, by rw [hlen]; exact S3⟩
end Go.Proofs.Ytghljfddgcclpaa
