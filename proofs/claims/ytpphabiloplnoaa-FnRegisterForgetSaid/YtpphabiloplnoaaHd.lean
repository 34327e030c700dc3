/- The draw of a register and a time. -/
import Derived.Test.YtpphabiloplnoaaHb
namespace Go.Proofs.Ytpphabiloplnoaa
open Go.RowKit
set_option linter.unusedVariables false
attribute [local go_sem ↓] Go.wp_at_zero Go.wp_at_succ

set_option maxHeartbeats 2000000 in
theorem draw_rtick (w : World) (a : Option Addr) (len cap : Nat) (zs : List Int) (h : IsRow .u8 w a len cap zs) :
    Calls Try.prog 23 #[.slice a len cap] w fun e w' =>
      ∃ (now d : Int) (l : TL) (sa : Option Addr) (c : Nat), e = .returned (.tuple #[.agg #[.int .i64 now, .slice sa l.length c], .int .i64 d]) ∧ l.length ≤ 9 ∧ l.length ≤ c ∧ (-1000 ≤ now ∧ now ≤ 2000) ∧ (-2000 ≤ d ∧ d ≤ 3000) ∧ Below w.heap.size w w' ∧ Sl 2 w' w'.heap.size sa l.length (tkG l) := by
  have h' : IsRow .u8 (w.alloc z0Reg) a len cap zs := isrow_alloc h _
  have HO := Lib.hid (open_s _ a len cap zs h')
  clear h h'
  have R0 := Blk.new w #[.int .i64 0, .slice none 0 0] 34
  go_enter Try.func23, Try.ntmps23
  go_wp2_with fail
  refine HO.out.mono ?_
  rintro e1 w1 ⟨bk, rfl, hbk, hS1⟩
  clear HO
  simp at hbk
  have R1 := R0.lo (rs_lo hS1) (by omega)
  clear R0
  go_wp2_with fail
  refine (regd_s hS1 (by omega)).mono ?_
  rintro e1 w2 ⟨q, now, l, sa, c, rfl, hq, hl9, hlc, ⟨hn1, hn2⟩, hS2, hl2, own2⟩
  have R2 := R1.lo hl2 (by omega)
  have q2 := hS2.lt
  have qR := R1.lt
  have qR2 := R2.lt
  have X3 := Blk.new w2 #[.int .i64 now, .slice sa l.length c] 34
  have hS3 := hS2.alloc (Obj.cells #[.int .i64 now, .slice sa l.length c] 34)
  have R3 := R2.alloc (Obj.cells #[.int .i64 now, .slice sa l.length c] 34)
  have own3 := own2.alloc (Obj.cells #[.int .i64 now, .slice sa l.length c] 34)
  have hbw : bk < w1.heap.size := hS1.lt
  clear hS1 hS2 hl2 R1 R2 own2
  go_wp2_with fail
  go_region_held3 (fun w' => w'.cell? ⟨w2.heap.size, 0, none⟩ = some (.int .i64 now) ∧ w'.cell? ⟨w2.heap.size, 1, none⟩ = some (.slice sa l.length c))
    (first | exact ⟨X3.cell 0 rfl, X3.cell 1 rfl⟩ | exact ⟨X3.drew.cell 0 rfl, X3.drew.cell 1 rfl⟩ | exact ⟨X4.cell 0 rfl, X4.cell 1 rfl⟩ | exact ⟨((X4.other (by omega) _ _).other (by omega) _ _).cell 0 rfl, ((X4.other (by omega) _ _).other (by omega) _ _).cell 1 rfl⟩ | go_keep)
    (first | (go_at_call 28; with_reducible refine (pick_s hS3.drew (by omega) (by omega)).mono ?_; rintro e w4 ⟨r, rfl, hr, hS4, hl4⟩; have X4 := X3.drew.lo hl4 (by omega); have R4 := R3.drew.lo hl4 (by omega); have own4 := row_lo own3.drew hl4 (by omega); have r0 := R4.cell 0 rfl; have r1 := R4.cell 1 rfl; have r2 := R4.free 0; have r3 := R4.free 1) | fail)
  all_goals
    have hB := Lib.hid (((Lo.refl bk w).alloc z0Reg).trans (rs_lo hS4))
    have hO := Lib.hid own4
    clear hS3 X3 R3 own3 hS4 hl4 own4
    go_wp2_with fail
    refine bodyPost_ret (v := .tuple #[.agg #[.int .i64 now, .slice sa l.length c], .int .i64 (now + (r : Int) - 1)]) ?_ rfl ⟨now, _, l, sa, c, rfl, hl9, hlc, ⟨hn1, hn2⟩, by omega, ?_, ?_⟩
    · simp only [results, Try.results23]
      go_simp
      rw [IntWalk.i64_in (now + (r : Int)) (by omega), IntWalk.i64_in _ (by omega)]
    · have hB := hB.out.below (by omega)
      repeat (first | with_reducible exact hB | with_reducible refine Below.drew ?_ | with_reducible refine Below.setCell ?_ (by simp <;> omega) _)
    · exact row_sl (row_set (row_set hO.out (by omega)) (by omega)) rfl (by omega)
end Go.Proofs.Ytpphabiloplnoaa
