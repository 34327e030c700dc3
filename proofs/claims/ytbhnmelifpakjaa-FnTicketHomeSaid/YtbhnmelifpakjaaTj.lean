/- The draw of a home. -/
import Derived.Test.YtbhnmelifpakjaaTi
namespace Go.Proofs.Ytbhnmelifpakjaa
open Go.RowKit
set_option linter.unusedVariables false

set_option maxHeartbeats 600000 in
theorem draw_home (w : World) (a : Option Addr) (len cap : Nat) (zs : List Int) (h : IsRow .u8 w a len cap zs) :
    Calls Try.prog 16 #[.slice a len cap] w fun e w' => ∃ n i s : Int, e = .returned (.tuple #[.int .i64 n, .agg #[.int .i64 i, .int .i64 s]]) ∧ Below w.heap.size w w' := by
  have h' : IsRow .u8 (w.alloc (Obj.cells #[.int .i64 0, .int .i64 0] 25)) a len cap zs := isrow_alloc h _
  have HO := Lib.hid (open_s _ a len cap zs h')
  clear h h'
  go_enter Try.func16, Try.ntmps16
  go_wp2_with fail
  refine HO.out.mono ?_
  rintro e1 w1 ⟨bk, rfl, hbk, hS1⟩
  clear HO
  simp at hbk
  go_wp2_with fail
  refine (pick_s hS1 (by omega) (by omega)).mono ?_
  rintro e1 w2 ⟨r1, rfl, hr1, hS2, -⟩
  go_wp2_with fail
  refine (pick_s hS2 (by omega) (by omega)).mono ?_
  rintro e1 w3 ⟨r2, rfl, hr2, hS3, -⟩
  go_wp2_with fail
  refine (time_s hS3 (by omega)).mono ?_
  rintro e1 w4 ⟨t, q, rfl, ⟨ht1, ht2⟩, hq, hS4, -⟩
  have B3 := (Blk.new w #[.int .i64 0, .int .i64 0] 25).lo (rs_lo hS4) (by omega)
  have d0 := B3.cell 0 rfl
  have d1 := B3.cell 1 rfl
  have g0 := B3.free 0
  have g1 := B3.free 1
  have hB := Lib.hid (((Lo.refl bk w).alloc (Obj.cells #[.int .i64 0, .int .i64 0] 25)).trans (rs_lo hS4))
  clear hS1 hS2 hS3 hS4 B3
  go_wp2_with fail
  refine bodyPost_ret (v := .tuple #[.int .i64 ((r1 : Int) - 1), .agg #[.int .i64 ((r2 : Int) - 1), .int .i64 t]]) ?_ rfl ⟨_, _, t, rfl, ?_⟩
  · simp only [results, Try.results16]
    go_simp
  · have hB := hB.out.below (by omega)
    repeat (first | with_reducible exact hB | with_reducible refine Below.drew ?_ | with_reducible refine Below.setCell ?_ (by simp <;> omega) _)
end Go.Proofs.Ytbhnmelifpakjaa
