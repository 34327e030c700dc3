/- The draw of a send allowance. -/
import Derived.Test.YtoicnhdhiahjmaaRd
namespace Go.Proofs.Ytoicnhdhiahjmaa
open Go.RowKit
set_option linter.unusedVariables false

theorem draw_allow (w : World) (a : Option Addr) (len cap : Nat) (zs : List Int) (h : IsRow .u8 w a len cap zs) :
    Calls Try.prog 11 #[.slice a len cap] w fun e w' => ∃ (r s : Int) (v : Bool), e = .returned (.tuple #[.int .i64 r, .int .i64 s, .bool v]) ∧ (-1 ≤ r ∧ r ≤ 10000) ∧ (-10 ≤ s ∧ s ≤ 100000) ∧ Below w.heap.size w w' := by
  have HO := Lib.hid (open_s w a len cap zs h)
  clear h
  go_enter Try.func11, Try.ntmps11
  go_wp2_with fail
  refine HO.out.mono ?_
  rintro e w1 ⟨bk, rfl, hbk, hS1⟩
  clear HO
  go_wp2_with fail
  refine (pick_s hS1 (by omega) (by omega)).mono ?_
  rintro e w2 ⟨r1, rfl, hr1, hS2, -⟩
  clear hS1
  go_wp2_with fail
  refine (pick_s (hS2.alloc _) (by omega) (by omega)).mono ?_
  rintro e w3 ⟨r2, rfl, hr2, hS3, hl3⟩
  obtain ⟨v1, ⟨hv1, hv1'⟩, hc1⟩ := cell_pick [-1, 0, 1, 100, 3333, 9999, 10000, (r1 : Int)] (-1) 10000 _ _ _ _ r2 (by simp; omega) (by simp; omega) hS2.lt hl3
  clear hS2 hl3
  go_wp2_with fail
  refine (pick_s hS3 (by omega) (by omega)).mono ?_
  rintro e w4 ⟨r3, rfl, hr3, hS4, -⟩
  clear hS3 hc1
  go_wp2_with fail
  refine (pick_s hS4 (by omega) (by omega)).mono ?_
  rintro e w5 ⟨r4, rfl, hr4, hS5, -⟩
  clear hS4
  go_wp2_with fail
  refine (pick_s (hS5.alloc _) (by omega) (by omega)).mono ?_
  rintro e w6 ⟨r5, rfl, hr5, hS6, hl6⟩
  obtain ⟨v2, ⟨hv2, hv2'⟩, hc2⟩ := cell_pick [-1, 0, 3 * v1, 3 * v1 - 1, 9999, 10000, (r3 : Int), 9900 + (r4 : Int)] (-10) 100000 _ _ _ _ r5 (by simp; omega) (by simp; omega) hS5.lt hl6
  clear hS5 hl6
  go_wp2_with fail
  refine (pick_s hS6 (by omega) (by omega)).mono ?_
  rintro e w7 ⟨r6, rfl, hr6, hS7, -⟩
  clear hS6 hc2
  go_wp2_with fail
  refine bodyPost_ret (v := .tuple #[.int .i64 v1, .int .i64 v2, .bool ((r6 : Int) == 0)]) (by simp [results, Try.results11, go_sem]) rfl ?_
  exact ⟨v1, v2, _, rfl, ⟨hv1, hv1'⟩, ⟨hv2, hv2'⟩, hS7.2.below hbk⟩
end Go.Proofs.Ytoicnhdhiahjmaa
