/- The draw of a register and a ticket. -/
import Derived.Test.YtpphabiloplnoaaHb
import Derived.BigQuiet
namespace Go.Proofs.Ytpphabiloplnoaa
open Go.RowKit
set_option linter.unusedVariables false
attribute [local go_sem ↓] Go.wp_at_zero Go.wp_at_succ

theorem row_at {w : World} {base n cap b off r : Nat} {l : TL} (h : w.ownsRow base 25 2 (.slice (some ⟨b, off, none⟩) n cap) n (flat l)) (hl : l.length = n) (hn : n ≤ 1048576) (hr : r < n) :
    w.cell? ⟨b, off + r * 2, none⟩ = some (.int .i64 (l.getD r (0, 0)).1) ∧ w.cell? ⟨b, off + r * 2 + 1, none⟩ = some (.int .i64 (l.getD r (0, 0)).2) ∧ b < w.heap.size := by
  obtain ⟨b', off', e, hB, hc⟩ := (row_sl h hl hn).at hr
  simp only [Option.some.injEq, Addr.mk.injEq, and_true] at e
  obtain ⟨rfl, rfl⟩ := e
  exact ⟨hc r hr 0 (by omega), hc r hr 1 (by omega), hB⟩

set_option maxHeartbeats 4000000 in
theorem draw_rtry (w : World) (a : Option Addr) (len cap : Nat) (zs : List Int) (h : IsRow .u8 w a len cap zs) :
    Calls Try.prog 17 #[.slice a len cap] w fun e w' =>
      ∃ (now : Int) (t : Int × Int) (l : TL) (sa : Option Addr) (c : Nat), e = .returned (.tuple #[.agg #[.int .i64 now, .slice sa l.length c], .agg #[.int .i64 t.1, .int .i64 t.2]]) ∧ l.length ≤ 9 ∧ l.length ≤ c ∧ (-1000 ≤ now ∧ now ≤ 2000) ∧ Below w.heap.size w w' ∧ Sl 2 w' w'.heap.size sa l.length (tkG l) := by
  have h' : IsRow .u8 ((w.alloc z0Reg).alloc (Obj.cells #[.int .i64 0, .int .i64 0] 25)) a len cap zs := isrow_alloc (isrow_alloc h _) _
  have HO := Lib.hid (open_s _ a len cap zs h')
  clear h h'
  have R0 := (Blk.new w #[.int .i64 0, .slice none 0 0] 34).alloc (Obj.cells #[.int .i64 0, .int .i64 0] 25)
  have T0 := Blk.new (w.alloc z0Reg) #[.int .i64 0, .int .i64 0] 25
  simp only [World.size_alloc] at T0
  go_enter Try.func17, Try.ntmps17
  go_wp2_with fail
  refine HO.out.mono ?_
  rintro e1 w1 ⟨bk, rfl, hbk, hS1⟩
  clear HO
  simp at hbk
  have R1 := R0.lo (rs_lo hS1) (by omega)
  have T1 := T0.lo (rs_lo hS1) (by omega)
  clear R0 T0
  go_wp2_with fail
  refine (regd_s hS1 (by omega)).mono ?_
  rintro e1 w2 ⟨q, now, l, sa, c, rfl, hq, hl9, hlc, ⟨hn1, hn2⟩, hS2, hl2, own2⟩
  have R2 := R1.lo hl2 (by omega)
  have T2 := T1.lo hl2 (by omega)
  have q2 := hS2.lt
  have qT := T1.lt
  have qT2 := T2.lt
  have X3 := Blk.new w2 #[.int .i64 now, .slice sa l.length c] 34
  have hS3 := hS2.alloc (Obj.cells #[.int .i64 now, .slice sa l.length c] 34)
  have R3 := R2.alloc (Obj.cells #[.int .i64 now, .slice sa l.length c] 34)
  have T3 := T2.alloc (Obj.cells #[.int .i64 now, .slice sa l.length c] 34)
  have own3 := own2.alloc (Obj.cells #[.int .i64 now, .slice sa l.length c] 34)
  have hbw : bk < w1.heap.size := hS1.lt
  clear hS1 hS2 hl2 R1 R2 T1 T2 own2
  have x0 := X3.cell 0 rfl
  go_wp2_with fail
  refine (tkd_s now hS3 (by omega) (by omega) (by omega)).mono ?_
  rintro e1 w4 ⟨t, rfl, hS4, hl4⟩
  have X4 := X3.lo hl4 (by omega)
  have R4 := R3.lo hl4 (by omega)
  have T4 := T3.lo hl4 (by omega)
  have own4 := row_lo own3 hl4 (by omega)
  have q4 := X4.lt
  have hlt4 : (Value.slice sa l.length c).ownBlock ≠ some w4.heap.size := fun h => Nat.lt_irrefl _ (own4.lt _ h).2
  clear hS3 hl4 X3 R3 T3 own3 x0
  have K5 := Blk.new w4 #[.int .i64 t.1, .int .i64 t.2] 25
  have hS5 := hS4.alloc (Obj.cells #[.int .i64 t.1, .int .i64 t.2] 25)
  have X5 := X4.alloc (Obj.cells #[.int .i64 t.1, .int .i64 t.2] 25)
  have R5 := R4.alloc (Obj.cells #[.int .i64 t.1, .int .i64 t.2] 25)
  have T5 := T4.alloc (Obj.cells #[.int .i64 t.1, .int .i64 t.2] 25)
  have own5 := own4.alloc (Obj.cells #[.int .i64 t.1, .int .i64 t.2] 25)
  clear X4 R4 T4 own4 hS4
  go_wp2_with fail
  refine (pick_s hS5 (by omega) (by omega)).mono ?_
  rintro e1 w6 ⟨r6, rfl, hr6, hS6, hl6⟩
  have X6 := X5.lo hl6 (by omega)
  have R6 := R5.lo hl6 (by omega)
  have T6 := T5.lo hl6 (by omega)
  have K6 := K5.lo hl6 (by omega)
  have own6 := row_lo own5 hl6 (by omega)
  clear hS5 hl6 X5 R5 T5 K5 own5
  have x0 := X6.cell 0 rfl
  have x1 := X6.cell 1 rfl
  have k0 := K6.cell 0 rfl
  have k1 := K6.cell 1 rfl
  have r0 := R6.cell 0 rfl
  have r1 := R6.cell 1 rfl
  have t0 := T6.cell 0 rfl
  have t1 := T6.cell 1 rfl
  have g0 := R6.free 0
  have g1 := R6.free 1
  have g2 := T6.free 0
  have g3 := T6.free 1
  by_cases h1 : r6 = 0
  · have h1' : ((r6 : Int) == 0) = true := by simp [h1]
    clear h1
    by_cases h2 : 0 < l.length
    · have h2' : (0 : Int) < (l.length : Int) := by omega
      have hl20 : l.length ≤ 1048576 := by omega
      have hm1 : (1 : Int) ≤ (l.length : Int) := by omega
      have hq6 : q + 3 + 1 ≤ 1000000 := by omega
      obtain ⟨b, off, rfl, hbB, -⟩ := (row_sl own6 rfl hl20).at h2
      have hd := hS6.drew
      have hbT : w.heap.size + 1 ≠ bk := by omega
      have hbR : w.heap.size ≠ bk := by omega
      have hbX : w2.heap.size ≠ bk := by omega
      have hbK : w4.heap.size ≠ bk := by omega
      have hXK : w2.heap.size ≠ w4.heap.size := by omega
      go_wp2_with fail
      go_region_law
        (first | (go_simp; go_at_call 28; with_reducible refine (pick_s hd hm1 hq6).mono ?_; rintro e w7 ⟨r, rfl, hr, hS7, hl7⟩; have hr' : r < l.length := (by omega); have X7 := X6.drew.lo hl7 hbX; have R7 := R6.drew.lo hl7 hbR; have T7 := T6.drew.lo hl7 hbT; have K7 := K6.drew.lo hl7 hbK; have own7 := row_lo own6.drew hl7 hbw; have y := row_at own7 rfl hl20 hr'; have y0 := y.1; have y1 := y.2.1; have y2 := y.2.2; have k0 := K7.cell 0 rfl; have k1 := K7.cell 1 rfl; have k2 := K7.free 0; have k3 := K7.free 1; have z0 := X7.cell 0 rfl; have z1 := X7.cell 1 rfl) | fail)
      all_goals
        have hB := Lib.hid ((((Lo.refl bk w).alloc z0Reg).alloc (Obj.cells #[.int .i64 0, .int .i64 0] 25)).trans (rs_lo hS7))
        have hO := Lib.hid own7
        clear x0 x1 r0 r1 t0 t1 g0 g1 g2 g3
        have r0 := R7.cell 0 rfl
        have r1 := R7.cell 1 rfl
        have t0 := T7.cell 0 rfl
        have t1 := T7.cell 1 rfl
        have g0 := R7.free 0
        have g1 := R7.free 1
        have g2 := T7.free 0
        have g3 := T7.free 1
        clear X6 R6 T6 K6 own6 hS6 X7 R7 T7 K7 own7 hS7 hl7 hd y y0 y1
        go_wp2_with fail
        go_region_law (fail)
        all_goals
          go_wp2_with fail
          refine bodyPost_ret (v := .tuple #[.agg #[.int .i64 now, .slice (some ⟨b, off, none⟩) l.length c], .agg #[.int .i64 (l[r]'hr').1, .int .i64 (l[r]'hr').2]]) ?_ rfl ⟨now, l[r]'hr', l, some ⟨b, off, none⟩, c, rfl, hl9, hlc, ⟨hn1, hn2⟩, ?_, ?_⟩
          · simp only [results, Try.results17]
            go_simp
          · have hB := hB.out.below (by omega)
            repeat (first | with_reducible exact hB | with_reducible refine Below.drew ?_ | with_reducible refine Below.setCell ?_ (by simp <;> omega) _)
          · refine row_sl (base := w1.heap.size) (cap := c) ?_ rfl (by omega)
            repeat (first | with_reducible exact hO.out | with_reducible refine World.ownsRow.drew ?_ | with_reducible refine row_set ?_ (by omega) | with_reducible refine row_sets ?_ hlt4)
    · have h2' : ¬ (0 : Int) < (l.length : Int) := by omega
      have hB := Lib.hid ((((Lo.refl bk w).alloc z0Reg).alloc (Obj.cells #[.int .i64 0, .int .i64 0] 25)).trans (rs_lo hS6))
      have hO := Lib.hid own6
      clear X6 R6 T6 K6 own6 hS6
      go_wp2_with fail
      go_region_law (fail)
      all_goals
        go_wp2_with fail
        refine bodyPost_ret (v := .tuple #[.agg #[.int .i64 now, .slice sa l.length c], .agg #[.int .i64 t.1, .int .i64 t.2]]) ?_ rfl ⟨now, t, l, sa, c, rfl, hl9, hlc, ⟨hn1, hn2⟩, ?_, ?_⟩
        · simp only [results, Try.results17]
          go_simp
        · have hB := hB.out.below (by omega)
          repeat (first | with_reducible exact hB | with_reducible refine Below.drew ?_ | with_reducible refine Below.setCell ?_ (by simp <;> omega) _)
        · refine row_sl (base := w1.heap.size) (cap := c) ?_ rfl (by omega)
          repeat (first | with_reducible exact hO.out | with_reducible refine World.ownsRow.drew ?_ | with_reducible refine row_set ?_ (by omega))
  · have h1' : ((r6 : Int) == 0) = false := by simp [h1]
    clear h1
    have hB := Lib.hid ((((Lo.refl bk w).alloc z0Reg).alloc (Obj.cells #[.int .i64 0, .int .i64 0] 25)).trans (rs_lo hS6))
    have hO := Lib.hid own6
    clear X6 R6 T6 K6 own6 hS6
    go_wp2_with fail
    go_region_law (fail)
    all_goals
      go_wp2_with fail
      refine bodyPost_ret (v := .tuple #[.agg #[.int .i64 now, .slice sa l.length c], .agg #[.int .i64 t.1, .int .i64 t.2]]) ?_ rfl ⟨now, t, l, sa, c, rfl, hl9, hlc, ⟨hn1, hn2⟩, ?_, ?_⟩
      · simp only [results, Try.results17]
        go_simp
      · have hB := hB.out.below (by omega)
        repeat (first | with_reducible exact hB | with_reducible refine Below.drew ?_ | with_reducible refine Below.setCell ?_ (by simp <;> omega) _)
      · refine row_sl (base := w1.heap.size) (cap := c) ?_ rfl (by omega)
        repeat (first | with_reducible exact hO.out | with_reducible refine World.ownsRow.drew ?_ | with_reducible refine row_set ?_ (by omega))
end Go.Proofs.Ytpphabiloplnoaa
