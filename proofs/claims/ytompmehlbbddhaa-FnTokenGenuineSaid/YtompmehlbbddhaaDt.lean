/- The draws of tokens. -/
import Derived.Test.YtompmehlbbddhaaTm
import Derived.Test.YtompmehlbbddhaaTk
import Derived.Deep.RegionHeld3
import Derived.Deep.RegionWith
import Derived.Deep.RegionLaw
namespace Go.Proofs.Ytompmehlbbddhaa
open Go.RowKit
set_option linter.unusedVariables false

theorem draw_make (w : World) (a : Option Addr) (len cap : Nat) (zs : List Int) (h : IsRow .u8 w a len cap zs) :
    Calls Try.prog 16 #[.slice a len cap] w fun e w' => ∃ (s d t : Int), e = .returned (.tuple #[.int .i64 s, .int .i64 d, .int .i64 t]) ∧
      (-1 ≤ s ∧ s ≤ 100) ∧ (-1 ≤ d ∧ d ≤ 101) ∧ (-1 ≤ t ∧ t ≤ 1000) ∧ Below w.heap.size w w' := by
  have HO := Lib.hid (open_s w a len cap zs h)
  clear h
  go_enter Try.func16, Try.ntmps16
  go_wp2_with fail
  refine HO.out.mono ?_
  rintro e w1 ⟨bk, rfl, hbk, hS1⟩
  clear HO
  go_wp2_with fail
  refine (pick_s hS1 (by omega) (by omega)).mono ?_
  rintro e w2 ⟨r1, rfl, hr1, hS2, -⟩
  clear hS1
  go_wp2_with fail
  refine (pick_s hS2 (by omega) (by omega)).mono ?_
  rintro e w3 ⟨r2, rfl, hr2, hS3, -⟩
  clear hS2
  go_wp2_with fail
  refine (time_s hS3 (by omega)).mono ?_
  rintro e w4 ⟨t, q, rfl, ht, hq, hS4, -⟩
  clear hS3
  go_wp2_with fail
  refine bodyPost_ret (v := .tuple #[.int .i64 ((r1 : Int) - 1), .int .i64 ((r2 : Int) - 1), .int .i64 t]) (by simp [results, Try.results16, go_sem]) rfl ?_
  exact ⟨_, _, t, rfl, ⟨by omega, by omega⟩, ⟨by omega, by omega⟩, ht, hS4.2.below hbk⟩

theorem mk_bd (s a t : Int) : -1 ≤ mkT s a t ∧ mkT s a t ≤ 999 ∧ 0 ≤ mkG s a t ∧ mkG s a t ≤ 996 := by
  unfold mkT mkG
  have h := tagF_bd s a t
  split
  · rename_i hb
    have := tokOk_t hb
    omega
  · omega

set_option maxHeartbeats 2000000 in
theorem draw_accept (w : World) (a : Option Addr) (len cap : Nat) (zs : List Int) (h : IsRow .u8 w a len cap zs) :
    Calls Try.prog 17 #[.slice a len cap] w fun e w' => ∃ (s x y z d now : Int), e = .returned (.tuple #[.int .i64 s, .agg #[.int .i64 x, .int .i64 y, .int .i64 z], .int .i64 d, .int .i64 now]) ∧
      Below w.heap.size w w' := by
  have h' : IsRow .u8 (w.alloc (Obj.cells #[.int .i64 0, .int .i64 0, .int .i64 0] 25)) a len cap zs := isrow_alloc h _
  have HO := Lib.hid (open_s _ a len cap zs h')
  clear h h'
  go_enter Try.func17, Try.ntmps17
  go_wp2_with fail
  refine HO.out.mono ?_
  rintro e w1 ⟨bk, rfl, hbk, hS1⟩
  clear HO
  simp at hbk
  go_wp2_with fail
  refine (pick_s hS1 (by omega) (by omega)).mono ?_
  rintro e w2 ⟨r1, rfl, hr1, hS2, -⟩
  clear hS1
  go_wp2_with fail
  refine (pick_s hS2 (by omega) (by omega)).mono ?_
  rintro e w3 ⟨r2, rfl, hr2, hS3, -⟩
  clear hS2
  go_wp2_with fail
  refine (pick_s hS3 (by omega) (by omega)).mono ?_
  rintro e w4 ⟨r3, rfl, hr3, hS4, -⟩
  clear hS3
  go_wp2_with fail
  refine (pick_s hS4 (by omega) (by omega)).mono ?_
  rintro e w5 ⟨r4, rfl, hr4, hS5, -⟩
  clear hS4
  go_wp2_with fail
  refine (make_spec _ _ _ _).mono ?_
  rintro e w6 ⟨rfl, hb6⟩
  have hS6 := (hS5.of hb6).alloc (Obj.cells #[.int .i64 (mkA r1 (1 + r2) (10 * r3 + r4)), .int .i64 (mkT r1 (1 + r2) (10 * r3 + r4)), .int .i64 (mkG r1 (1 + r2) (10 * r3 + r4))] 25)
  have q6 : bk < w6.heap.size := (hS5.of hb6).lt
  clear hS5 hb6
  go_wp2_with fail
  refine (pick_s hS6 (by omega) (by omega)).mono ?_
  rintro e w7 ⟨r5, rfl, hr5, hS7, hl7⟩
  clear hS6
  go_wp2_with fail
  refine (pick_s hS7 (by omega) (by omega)).mono ?_
  rintro e w8 ⟨r6, rfl, hr6, hS8, hl8⟩
  have hl := hl7.trans hl8
  have hz := hl.size
  simp at hz
  have hx := mk_bd r1 (1 + r2) (10 * r3 + r4)
  obtain ⟨hy1, hy2, hx1, hx2⟩ := hx
  generalize mkA r1 (1 + r2) (10 * r3 + r4) = x at *
  generalize mkT r1 (1 + r2) (10 * r3 + r4) = y at *
  generalize mkG r1 (1 + r2) (10 * r3 + r4) = z at *
  have B10 := (Blk.new w6 #[.int .i64 x, .int .i64 y, .int .i64 z] 25).lo hl (by omega)
  clear hS7 hl7 hl8 hl
  have n10 : w6.heap.size ≠ bk := by omega
  rcases show r6 = 0 ∨ r6 = 1 ∨ r6 = 2 ∨ r6 = 3 ∨ 4 ≤ r6 by omega with rfl | rfl | rfl | rfl | h6
  · go_wp2_with fail
    have c2 := B10.cell 2 rfl
    go_region_law (first | (go_simp; go_at_call 25; refine (pick_s hS8.drew (by omega) (by omega)).mono ?_; rintro e w9 ⟨r7, rfl, hr7, hS9, hl9⟩; have B10 := B10.drew.lo hl9 n10; have c0 := B10.cell 0 rfl; have c1 := B10.cell 1 rfl; have c2 := B10.cell 2 rfl; have f0 := B10.free 0; have f1 := B10.free 1; have f2 := B10.free 2))
    all_goals
      have B3 := (Blk.new w #[.int .i64 0, .int .i64 0, .int .i64 0] 25).lo hS9.2 (by omega)
      have d0 := B3.cell 0 rfl
      have d1 := B3.cell 1 rfl
      have d2 := B3.cell 2 rfl
      have g0 := B3.free 0
      have g1 := B3.free 1
      have g2 := B3.free 2
      have n3 : w.heap.size ≠ w6.heap.size := by omega
      have hB := Lib.hid (((Lo.refl bk w).alloc _).trans hS9.2)
      clear B3 B10 hS9
      go_wp2_with fail
      go_region
      go_wp2_with fail
      refine bodyPost_ret (v := .tuple #[.int .i64 r1, .agg #[.int .i64 x, .int .i64 y, .int .i64 (z + 1 - r7)], .int .i64 (1 + (r2 : Int)), .int .i64 (10 * (r3 : Int) + r4 + r5 - 2)]) (by simp [results, Try.results17, go_sem, *]) rfl ?_
      refine ⟨_, _, _, _, _, _, rfl, ?_⟩
      have hB := hB.out.below (by omega)
      repeat (first | exact hB | refine Below.drew ?_ | refine Below.setCell ?_ (by simp <;> omega) _)

  · go_wp2_with fail
    have c1 := B10.cell 1 rfl
    go_region_law (first | (go_simp; go_at_call 25; refine (pick_s hS8.drew (by omega) (by omega)).mono ?_; rintro e w9 ⟨r7, rfl, hr7, hS9, hl9⟩; have B10 := B10.drew.lo hl9 n10; have c0 := B10.cell 0 rfl; have c1 := B10.cell 1 rfl; have c2 := B10.cell 2 rfl; have f0 := B10.free 0; have f1 := B10.free 1; have f2 := B10.free 2))
    all_goals
      have B3 := (Blk.new w #[.int .i64 0, .int .i64 0, .int .i64 0] 25).lo hS9.2 (by omega)
      have d0 := B3.cell 0 rfl
      have d1 := B3.cell 1 rfl
      have d2 := B3.cell 2 rfl
      have g0 := B3.free 0
      have g1 := B3.free 1
      have g2 := B3.free 2
      have n3 : w.heap.size ≠ w6.heap.size := by omega
      have hB := Lib.hid (((Lo.refl bk w).alloc _).trans hS9.2)
      clear B3 B10 hS9
      go_wp2_with fail
      go_region
      go_wp2_with fail
      refine bodyPost_ret (v := .tuple #[.int .i64 r1, .agg #[.int .i64 x, .int .i64 (y + r7 - 1), .int .i64 z], .int .i64 (1 + (r2 : Int)), .int .i64 (10 * (r3 : Int) + r4 + r5 - 2)]) (by simp [results, Try.results17, go_sem, *]) rfl ?_
      refine ⟨_, _, _, _, _, _, rfl, ?_⟩
      have hB := hB.out.below (by omega)
      repeat (first | exact hB | refine Below.drew ?_ | refine Below.setCell ?_ (by simp <;> omega) _)

  · go_wp2_with fail
    refine (pick_s hS8 (by omega) (by omega)).mono ?_
    rintro e w9 ⟨r7, rfl, hr7, hS9, hl9⟩
    have B10 := B10.lo hl9 n10
    have c0 := B10.cell 0 rfl
    have c1 := B10.cell 1 rfl
    have c2 := B10.cell 2 rfl
    have f0 := B10.free 0
    have f1 := B10.free 1
    have f2 := B10.free 2
    all_goals
      have B3 := (Blk.new w #[.int .i64 0, .int .i64 0, .int .i64 0] 25).lo hS9.2 (by omega)
      have d0 := B3.cell 0 rfl
      have d1 := B3.cell 1 rfl
      have d2 := B3.cell 2 rfl
      have g0 := B3.free 0
      have g1 := B3.free 1
      have g2 := B3.free 2
      have n3 : w.heap.size ≠ w6.heap.size := by omega
      have hB := Lib.hid (((Lo.refl bk w).alloc _).trans hS9.2)
      clear B3 B10 hS9
      go_wp2_with fail
      go_region
      go_wp2_with fail
      refine bodyPost_ret (v := .tuple #[.int .i64 r1, .agg #[.int .i64 x, .int .i64 y, .int .i64 z], .int .i64 ((r7 : Int) - 1), .int .i64 (10 * (r3 : Int) + r4 + r5 - 2)]) (by simp [results, Try.results17, go_sem, *]) rfl ?_
      refine ⟨_, _, _, _, _, _, rfl, ?_⟩
      have hB := hB.out.below (by omega)
      repeat (first | exact hB | refine Below.drew ?_ | refine Below.setCell ?_ (by simp <;> omega) _)

  · go_wp2_with fail
    refine (pick_s hS8 (by omega) (by omega)).mono ?_
    rintro e w9 ⟨r7, rfl, hr7, hS9, hl9⟩
    have B10 := B10.lo hl9 n10
    have c0 := B10.cell 0 rfl
    have c1 := B10.cell 1 rfl
    have c2 := B10.cell 2 rfl
    have f0 := B10.free 0
    have f1 := B10.free 1
    have f2 := B10.free 2
    all_goals
      have B3 := (Blk.new w #[.int .i64 0, .int .i64 0, .int .i64 0] 25).lo hS9.2 (by omega)
      have d0 := B3.cell 0 rfl
      have d1 := B3.cell 1 rfl
      have d2 := B3.cell 2 rfl
      have g0 := B3.free 0
      have g1 := B3.free 1
      have g2 := B3.free 2
      have n3 : w.heap.size ≠ w6.heap.size := by omega
      have hB := Lib.hid (((Lo.refl bk w).alloc _).trans hS9.2)
      clear B3 B10 hS9
      go_wp2_with fail
      go_region
      go_wp2_with fail
      refine bodyPost_ret (v := .tuple #[.int .i64 ((r7 : Int) - 1), .agg #[.int .i64 x, .int .i64 y, .int .i64 z], .int .i64 (1 + (r2 : Int)), .int .i64 (10 * (r3 : Int) + r4 + r5 - 2)]) (by simp [results, Try.results17, go_sem, *]) rfl ?_
      refine ⟨_, _, _, _, _, _, rfl, ?_⟩
      have hB := hB.out.below (by omega)
      repeat (first | exact hB | refine Below.drew ?_ | refine Below.setCell ?_ (by simp <;> omega) _)

  · have k0 : ((r6 : Int) == 0) = false := by simp; omega
    have k1 : ((r6 : Int) == 1) = false := by simp; omega
    have k2 : ((r6 : Int) == 2) = false := by simp; omega
    have k3 : ((r6 : Int) == 3) = false := by simp; omega
    have c0 := B10.cell 0 rfl
    have c1 := B10.cell 1 rfl
    have c2 := B10.cell 2 rfl
    have f0 := B10.free 0
    have f1 := B10.free 1
    have f2 := B10.free 2
    all_goals
      have B3 := (Blk.new w #[.int .i64 0, .int .i64 0, .int .i64 0] 25).lo hS8.2 (by omega)
      have d0 := B3.cell 0 rfl
      have d1 := B3.cell 1 rfl
      have d2 := B3.cell 2 rfl
      have g0 := B3.free 0
      have g1 := B3.free 1
      have g2 := B3.free 2
      have n3 : w.heap.size ≠ w6.heap.size := by omega
      have hB := Lib.hid (((Lo.refl bk w).alloc _).trans hS8.2)
      clear B3 B10 hS8
      go_wp2_with fail
      go_region
      go_wp2_with fail
      refine bodyPost_ret (v := .tuple #[.int .i64 r1, .agg #[.int .i64 x, .int .i64 y, .int .i64 z], .int .i64 (1 + (r2 : Int)), .int .i64 (10 * (r3 : Int) + r4 + r5 - 2)]) (by simp [results, Try.results17, go_sem, *]) rfl ?_
      refine ⟨_, _, _, _, _, _, rfl, ?_⟩
      have hB := hB.out.below (by omega)
      repeat (first | exact hB | refine Below.drew ?_ | refine Below.setCell ?_ (by simp <;> omega) _)

end Go.Proofs.Ytompmehlbbddhaa
