/- The draws for the loss delay and the probe timeout. -/
import Derived.Test.YtjgmindnjceofaaRw
namespace Go.Proofs.Ytjgmindnjceofaa
open Go.RowKit
set_option linter.unusedVariables false

theorem rs_lo {a w : World} {bk p : Nat} (h : RS a bk p w) : Lo bk a w := h.2

theorem draw_lossd (w : World) (a : Option Addr) (len cap : Nat) (zs : List Int) (h : IsRow .u8 w a len cap zs) :
    Calls Try.prog 23 #[.slice a len cap] w fun e w' => ∃ x0 x1 x2 x3 : Int, e = .returned (.agg #[.int .i64 x0, .int .i64 x1, .int .i64 x2, .int .i64 x3]) ∧ Below w.heap.size w w' := by
  have h' : IsRow .u8 (w.alloc (Obj.cells #[.int .i64 0, .int .i64 0, .int .i64 0, .int .i64 0] 25)) a len cap zs := isrow_alloc h _
  have HO := Lib.hid (open_s _ a len cap zs h')
  clear h h'
  go_enter Try.func23, Try.ntmps23
  go_wp2_with fail
  refine HO.out.mono ?_
  rintro e1 w1 ⟨bk, rfl, hbk, hS1⟩
  clear HO
  simp at hbk
  go_wp2_with fail
  refine (rtt_s hS1 (by omega)).mono ?_
  rintro e1 w2 ⟨x0, x1, x2, x3, q, rfl, hq, hS2, -⟩
  clear hS1
  have B3 := (Blk.new w #[.int .i64 0, .int .i64 0, .int .i64 0, .int .i64 0] 25).lo (rs_lo hS2) (by omega)
  have d0 := B3.cell 0 rfl
  have d1 := B3.cell 1 rfl
  have d2 := B3.cell 2 rfl
  have d3 := B3.cell 3 rfl
  have g0 := B3.free 0
  have g1 := B3.free 1
  have g2 := B3.free 2
  have g3 := B3.free 3
  have hB := Lib.hid (((Lo.refl bk w).alloc (Obj.cells #[.int .i64 0, .int .i64 0, .int .i64 0, .int .i64 0] 25)).trans (rs_lo hS2))
  clear B3 hS2
  go_wp2_with fail
  refine bodyPost_ret (v := .agg #[.int .i64 x0, .int .i64 x1, .int .i64 x2, .int .i64 x3]) ?_ rfl ⟨x0, x1, x2, x3, rfl, ?_⟩
  · simp only [results, Try.results23]
    go_simp
  · have hB := hB.out.below (by omega)
    repeat (first | with_reducible exact hB | with_reducible refine Below.drew ?_ | with_reducible refine Below.setCell ?_ (by simp <;> omega) _ | with_reducible refine Below.alloc ?_ (by simp <;> omega) _)
set_option maxHeartbeats 1000000 in
theorem draw_probe (w : World) (a : Option Addr) (len cap : Nat) (zs : List Int) (h : IsRow .u8 w a len cap zs) :
    Calls Try.prog 24 #[.slice a len cap] w fun e w' => ∃ x0 x1 x2 x3 k : Int, e = .returned (.tuple #[.agg #[.int .i64 x0, .int .i64 x1, .int .i64 x2, .int .i64 x3], .int .i64 k]) ∧ (-1 ≤ k ∧ k ≤ 8) ∧ Below w.heap.size w w' := by
  have h' : IsRow .u8 (w.alloc (Obj.cells #[.int .i64 0, .int .i64 0, .int .i64 0, .int .i64 0] 25)) a len cap zs := isrow_alloc h _
  have HO := Lib.hid (open_s _ a len cap zs h')
  clear h h'
  go_enter Try.func24, Try.ntmps24
  go_wp2_with fail
  refine HO.out.mono ?_
  rintro e1 w1 ⟨bk, rfl, hbk, hS1⟩
  clear HO
  simp at hbk
  go_wp2_with fail
  refine (rtt_s hS1 (by omega)).mono ?_
  rintro e1 w2 ⟨x0, x1, x2, x3, q, rfl, hq, hS2, -⟩
  clear hS1
  have B9 := Blk.new w2 #[.int .i64 x0, .int .i64 x1, .int .i64 x2, .int .i64 x3] 25
  have q2 := hS2.lt
  have e90 := B9.cell 0 rfl
  have e91 := B9.cell 1 rfl
  have e92 := B9.cell 2 rfl
  have e93 := B9.cell 3 rfl
  have n2 : w.heap.size ≠ bk := by omega
  have n9 : w2.heap.size ≠ bk := by omega
  have hS2' := (hS2.alloc (Obj.cells #[.int .i64 x0, .int .i64 x1, .int .i64 x2, .int .i64 x3] 25)).drew
  go_wp2_with fail
  go_region_law (first | (go_simp; go_at_call 30; with_reducible refine (pick_s hS2' (by omega) (by omega)).mono ?_; rintro e1 w3 ⟨r1, rfl, hr1, hS3, hl3⟩; have B9 := B9.drew.lo hl3 n9; have e90 := B9.cell 0 rfl; have e91 := B9.cell 1 rfl; have e92 := B9.cell 2 rfl; have e93 := B9.cell 3 rfl; have B3 := (Blk.new w #[.int .i64 0, .int .i64 0, .int .i64 0, .int .i64 0] 25).lo (rs_lo hS3) n2; have d0 := B3.cell 0 rfl; have d1 := B3.cell 1 rfl; have d2 := B3.cell 2 rfl; have d3 := B3.cell 3 rfl; have g0 := B3.free 0; have g1 := B3.free 1; have g2 := B3.free 2; have g3 := B3.free 3; have hB := Lib.hid (((Lo.refl bk w).alloc (Obj.cells #[.int .i64 0, .int .i64 0, .int .i64 0, .int .i64 0] 25)).trans (rs_lo hS3)); have e94 : IntKind.i64.wrap ((r1 : Int) - 1) = r1 - 1 := IntWalk.i64_in _ (by omega)))
  all_goals
    clear B3 hS3 e94
    go_wp2_with fail
    refine bodyPost_ret (v := .tuple #[.agg #[.int .i64 x0, .int .i64 x1, .int .i64 x2, .int .i64 x3], .int .i64 ((r1 : Int) - 1)]) ?_ rfl ⟨x0, x1, x2, x3, _, rfl, ⟨by omega, by omega⟩, ?_⟩
    · simp only [results, Try.results24]
      go_simp
    · have hB := hB.out.below (by omega)
      repeat (first | with_reducible exact hB | with_reducible refine Below.drew ?_ | with_reducible refine Below.setCell ?_ (by simp <;> omega) _ | with_reducible refine Below.alloc ?_ (by simp <;> omega) _)

end Go.Proofs.Ytjgmindnjceofaa
