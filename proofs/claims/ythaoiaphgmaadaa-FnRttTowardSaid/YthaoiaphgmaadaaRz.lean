/- The draw for the update of an estimate. -/
import Derived.Test.YthaoiaphgmaadaaRw
namespace Go.Proofs.Ythaoiaphgmaadaa
open Go.RowKit
set_option linter.unusedVariables false

theorem rs_lo {a w : World} {bk p : Nat} (h : RS a bk p w) : Lo bk a w := h.2

theorem rs_lt {a w : World} {bk p : Nat} (h : RS a bk p w) : bk < w.heap.size := h.lt
theorem new7 (s : Int) (r4 r5 k : Nat) (h1 : 0 ≤ s) (h2 : s ≤ 1000) (h4 : r4 < 60) (h5 : r5 < 20) (h : k < 7) :
    ∃ v : Int, (-1 ≤ v ∧ v ≤ 1000) ∧ [Value.int .i64 (-1), Value.int .i64 0, Value.int .i64 1, Value.int .i64 s, Value.int .i64 1000, Value.int .i64 (r4 : Int), Value.int .i64 (r5 : Int)][k]? = some (.int .i64 v) := by
  rcases show k = 0 ∨ k = 1 ∨ k = 2 ∨ k = 3 ∨ k = 4 ∨ k = 5 ∨ k = 6 by omega with rfl | rfl | rfl | rfl | rfl | rfl | rfl
  · exact ⟨-1, by omega, rfl⟩
  · exact ⟨0, by omega, rfl⟩
  · exact ⟨1, by omega, rfl⟩
  · exact ⟨s, by omega, rfl⟩
  · exact ⟨1000, by omega, rfl⟩
  · exact ⟨r4, by omega, rfl⟩
  · exact ⟨r5, by omega, rfl⟩
theorem pick7 {w w' : World} {bk : Nat} {T : TypeId} (s : Int) (r4 r5 k : Nat) (h1 : 0 ≤ s) (h2 : s ≤ 1000) (h4 : r4 < 60) (h5 : r5 < 20) (h : k < 7) (hb : bk < w.heap.size)
    (ho : Lo bk (w.alloc (Obj.cells #[.int .i64 (-1), .int .i64 0, .int .i64 1, .int .i64 s, .int .i64 1000, .int .i64 (r4 : Int), .int .i64 (r5 : Int)] T)) w') :
    ∃ v : Int, (-1 ≤ v ∧ v ≤ 1000) ∧ w'.cell? ⟨w.heap.size, k, none⟩ = some (.int .i64 v) :=
  cell_pick [-1, 0, 1, s, 1000, (r4 : Int), (r5 : Int)] (-1) 1000 w w' bk T k h (by simp; omega) hb ho

set_option maxHeartbeats 2000000 in
theorem draw_upd (w : World) (a : Option Addr) (len cap : Nat) (zs : List Int) (h : IsRow .u8 w a len cap zs) :
    Calls Try.prog 8 #[.slice a len cap] w fun e w' => ∃ x0 x1 x2 x3 s d : Int, e = .returned (.tuple #[.agg #[.int .i64 x0, .int .i64 x1, .int .i64 x2, .int .i64 x3], .int .i64 s, .int .i64 d]) ∧ (0 ≤ s ∧ s ≤ 1000) ∧ (-1 ≤ d ∧ d ≤ 1000) ∧ Below w.heap.size w w' := by
  have h' : IsRow .u8 (w.alloc (Obj.cells #[.int .i64 0, .int .i64 0, .int .i64 0, .int .i64 0] 24)) a len cap zs := isrow_alloc h _
  have HO := Lib.hid (open_s _ a len cap zs h')
  clear h h'
  go_enter Try.func8, Try.ntmps8
  go_wp2_with fail
  refine HO.out.mono ?_
  rintro e1 w1 ⟨bk, rfl, hbk, hS1⟩
  clear HO
  simp at hbk
  go_wp2_with fail
  refine (rtt_s hS1 (by omega)).mono ?_
  rintro e1 w2 ⟨x0, x1, x2, x3, q, rfl, hq, hS2, -⟩
  clear hS1
  have B9 := Blk.new w2 #[.int .i64 x0, .int .i64 x1, .int .i64 x2, .int .i64 x3] 24
  have q2 := hS2.lt
  have hS2 := hS2.alloc (Obj.cells #[.int .i64 x0, .int .i64 x1, .int .i64 x2, .int .i64 x3] 24)
  go_wp2_with fail
  refine (pick_s hS2 (by omega) (by omega)).mono ?_
  rintro e1 w3 ⟨r1, rfl, hr1, hS3, hl3⟩
  have B9 := B9.lo hl3 (by omega)
  clear hS2 hl3
  go_wp2_with fail
  refine (pick_s (hS3.alloc _) (by omega) (by omega)).mono ?_
  rintro e1 w4 ⟨r2, rfl, hr2, hS4, hl4⟩
  have C4 := (Blk.new w3 #[.int .i64 0, .int .i64 1, .int .i64 999, .int .i64 1000, .int .i64 (1 + (r1 : Int))] 3).lo hl4 (by have := hS3.lt; omega)
  have B9 := (B9.alloc (Obj.cells #[.int .i64 0, .int .i64 1, .int .i64 999, .int .i64 1000, .int .i64 (1 + (r1 : Int))] 3)).lo hl4 (by omega)
  have n9 := hS3.lt
  clear hS3 hl4
  go_wp2_with fail
  refine (pick_s hS4 (by omega) (by omega)).mono ?_
  rintro e1 w5 ⟨r3, rfl, hr3, hS5, hl5⟩
  have C5 := C4.lo hl5 (by omega)
  have B9 := B9.lo hl5 (by omega)
  obtain ⟨s, ⟨hs1, hs2⟩, hcs⟩ : ∃ s : Int, (0 ≤ s ∧ s ≤ 1000) ∧ w5.cell? ⟨w3.heap.size, r2 + r3, none⟩ = some (.int .i64 s) := by
    rcases show r2 + r3 = 0 ∨ r2 + r3 = 1 ∨ r2 + r3 = 2 ∨ r2 + r3 = 3 ∨ r2 + r3 = 4 by omega with h | h | h | h | h
    · exact ⟨0, by omega, by rw [h]; exact C5.cell 0 rfl⟩
    · exact ⟨1, by omega, by rw [h]; exact C5.cell 1 rfl⟩
    · exact ⟨999, by omega, by rw [h]; exact C5.cell 2 rfl⟩
    · exact ⟨1000, by omega, by rw [h]; exact C5.cell 3 rfl⟩
    · exact ⟨1 + (r1 : Int), by omega, by rw [h]; exact C5.cell 4 rfl⟩
  have i5 : (r2 : Int) + (r3 : Int) < 5 := by omega
  have e90 := B9.cell 0 rfl
  have e91 := B9.cell 1 rfl
  have e92 := B9.cell 2 rfl
  have e93 := B9.cell 3 rfl
  clear C4 C5 hS4 hl5
  have n2 : w.heap.size ≠ bk := by omega
  have nn9 : w2.heap.size ≠ bk := by omega
  go_wp2_with fail
  clear i5 hcs
  go_region_law (first | (go_simp; go_at_call 14; with_reducible refine (pick_s hS5.drew (by omega) (by omega)).mono ?_; rintro e1 w6 ⟨r4, rfl, hr4, hS6, hl6⟩; have B6 := B9.drew.lo hl6 nn9; have e60 := B6.cell 0 rfl; have e61 := B6.cell 1 rfl; have e62 := B6.cell 2 rfl; have e63 := B6.cell 3 rfl) | (go_simp; go_at_call 14; with_reducible refine (pick_s hS6 (by omega) (by omega)).mono ?_; rintro e1 w7 ⟨r5, rfl, hr5, hS7, hl7⟩; have B7 := B6.lo hl7 nn9; have q7 := B7.lt; have e70 := B7.cell 0 rfl; have e71 := B7.cell 1 rfl; have e72 := B7.cell 2 rfl; have e73 := B7.cell 3 rfl) | (go_simp; go_at_call 14; with_reducible refine (pick_s (hS7.alloc (Obj.cells #[.int .i64 (-1), .int .i64 0, .int .i64 1, .int .i64 s, .int .i64 1000, .int .i64 (r4 : Int), .int .i64 (r5 : Int)] 3)) (by omega) (by omega)).mono ?_; rintro e1 w8 ⟨r6, rfl, hr6, hS8, hl8⟩; obtain ⟨d, ⟨hd1, hd2⟩, hcd⟩ := pick7 s r4 r5 r6 hs1 hs2 (by omega) (by omega) (by omega) (rs_lt hS7) hl8; have B8 := (B7.alloc (Obj.cells #[.int .i64 (-1), .int .i64 0, .int .i64 1, .int .i64 s, .int .i64 1000, .int .i64 (r4 : Int), .int .i64 (r5 : Int)] 3)).lo hl8 nn9; have e80 := B8.cell 0 rfl; have e81 := B8.cell 1 rfl; have e82 := B8.cell 2 rfl; have e83 := B8.cell 3 rfl; have B3 := (Blk.new w #[.int .i64 0, .int .i64 0, .int .i64 0, .int .i64 0] 24).lo (rs_lo hS8) n2; have d0 := B3.cell 0 rfl; have d1 := B3.cell 1 rfl; have d2 := B3.cell 2 rfl; have d3 := B3.cell 3 rfl; have g0 := B3.free 0; have g1 := B3.free 1; have g2 := B3.free 2; have g3 := B3.free 3; have hB := Lib.hid (((Lo.refl bk w).alloc (Obj.cells #[.int .i64 0, .int .i64 0, .int .i64 0, .int .i64 0] 24)).trans (rs_lo hS8))) | (go_simp; go_at_call 14; with_reducible refine (pick_s hS7 (by omega) (by omega)).mono ?_; rintro e1 w8 ⟨r6, rfl, hr6, hS8, hl8⟩; obtain ⟨d, ⟨hd1, hd2⟩, hcd⟩ := new7 s r4 r5 r6 hs1 hs2 (by omega) (by omega) (by omega); have B8 := B7.lo hl8 nn9; have q8 := B8.lt; have e80 := B8.cell 0 rfl; have e81 := B8.cell 1 rfl; have e82 := B8.cell 2 rfl; have e83 := B8.cell 3 rfl; have B3 := (Blk.new w #[.int .i64 0, .int .i64 0, .int .i64 0, .int .i64 0] 24).lo (rs_lo hS8) n2; have d0 := B3.cell 0 rfl; have d1 := B3.cell 1 rfl; have d2 := B3.cell 2 rfl; have d3 := B3.cell 3 rfl; have g0 := B3.free 0; have g1 := B3.free 1; have g2 := B3.free 2; have g3 := B3.free 3; have hB := Lib.hid (((Lo.refl bk w).alloc (Obj.cells #[.int .i64 0, .int .i64 0, .int .i64 0, .int .i64 0] 24)).trans (rs_lo hS8)); have q9 := B3.lt))
  all_goals
    clear B3 hS8
    go_wp2_with fail
    refine bodyPost_ret (v := .tuple #[.agg #[.int .i64 x0, .int .i64 x1, .int .i64 x2, .int .i64 x3], .int .i64 s, .int .i64 d]) ?_ rfl ⟨x0, x1, x2, x3, s, d, rfl, ⟨by omega, by omega⟩, ⟨by omega, by omega⟩, ?_⟩
    · simp only [results, Try.results8]
      go_simp
    · have hB := hB.out.below (by omega)
      repeat (first | with_reducible exact hB | with_reducible refine Below.drew ?_ | with_reducible refine Below.setCell ?_ (by simp <;> omega) _ | with_reducible refine Below.alloc ?_ (by simp <;> omega) _)

end Go.Proofs.Ythaoiaphgmaadaa
