/- Contracts of the update of an estimate. -/
import Derived.Test.YthaoiaphgmaadaaRv
import Derived.Deep.RegionLaw
namespace Go.Proofs.Ythaoiaphgmaadaa
open Go.RowKit
set_option linter.unusedVariables false

/-- The update, part by part. -/
def uB (b s : Int) : Int := if s < b then s else b
def uN (b s e : Int) : Int := if s - e < uB b s then s else s - e
def uC (c n : Int) : Int := c + (n - c / 8)
def uD (c d n : Int) : Int := d + ((if c / 8 - n < 0 then -(c / 8 - n) else c / 8 - n) - d / 4)
def upOk (a b c d s e : Int) : Bool := rttOk a b c d && inB s 1 999 && inB e 0 999
def rA (a b c d s e : Int) : Int := if upOk a b c d s e = true then s else 0
def rB (a b c d s e : Int) : Int := if upOk a b c d s e = true then (if a = 0 then s else uB b s) else 0
def rC (a b c d s e : Int) : Int := if upOk a b c d s e = true then (if a = 0 then 8 * s else uC c (uN b s e)) else 0
def rD (a b c d s e : Int) : Int := if upOk a b c d s e = true then (if a = 0 then 2 * s else uD c d (uN b s e)) else 0
theorem upOk_t {a b c d s e : Int} (h : upOk a b c d s e = true) : rttOk a b c d = true ∧ (1 ≤ s ∧ s ≤ 999) ∧ (0 ≤ e ∧ e ≤ 999) := by
  simp [upOk, inB] at h
  exact ⟨h.1.1, h.1.2, h.2⟩
theorem upOk_mk {a b c d s e : Int} (h : rttOk a b c d = true) (h1 : 1 ≤ s ∧ s ≤ 999) (h2 : 0 ≤ e ∧ e ≤ 999) : upOk a b c d s e = true := by
  simp [upOk, inB, h, h1, h2]
theorem uB_bd {a b c d s e : Int} (h : upOk a b c d s e = true) (ha : a ≠ 0) : 1 ≤ uB b s ∧ uB b s ≤ s ∧ uB b s ≤ b := by
  obtain ⟨h1, h2, h3⟩ := upOk_t h
  obtain ⟨k1, k2, k3, k4⟩ := rttOk_t h1 ha
  unfold uB; split <;> omega
theorem uN_bd {a b c d s e : Int} (h : upOk a b c d s e = true) (ha : a ≠ 0) : 1 ≤ uN b s e ∧ uN b s e ≤ 999 := by
  obtain ⟨h1, h2, h3⟩ := upOk_t h
  have h4 := uB_bd h ha
  unfold uN; split <;> omega
/-- A sample keeps an estimate valid. -/
theorem up_valid {a b c d s e : Int} (h : upOk a b c d s e = true) : rttOk (rA a b c d s e) (rB a b c d s e) (rC a b c d s e) (rD a b c d s e) = true := by
  obtain ⟨h1, h2, h3⟩ := upOk_t h
  apply rttOk_mk
  simp only [rA, rB, rC, rD, h, if_true]
  by_cases ha : a = 0
  · simp only [ha, if_true]; omega
  · obtain ⟨k1, k2, k3, k4⟩ := rttOk_t h1 ha
    have h4 := uB_bd h ha
    have h5 := uN_bd h ha
    simp only [ha, if_false]
    refine ⟨by omega, by omega, ?_, ?_⟩
    · unfold uC; omega
    · unfold uD; split <;> omega

set_option maxHeartbeats 1000000 in
theorem upd_impl_no1 (a b c d s e : Int) (w : World) (hv : rttOk a b c d = false) :
    Calls Try.prog 9 #[.agg #[.int .i64 a, .int .i64 b, .int .i64 c, .int .i64 d], .int .i64 s, .int .i64 e] w fun e1 w' => e1 = .returned (.tuple #[.agg #[.int .i64 0, .int .i64 0, .int .i64 0, .int .i64 0], .bool false]) ∧ Below w.heap.size w w' := by
  go_enter Try.func9, Try.ntmps9
  go_wp2_with fail
  refine (valid_impl _ _ _ _ _).mono ?_
  rintro e1 w1 ⟨rfl, hb1⟩
  have B3 := ((Blk.new w #[.int .i64 a, .int .i64 b, .int .i64 c, .int .i64 d] 24).alloc (Obj.cells #[.int .i64 0, .int .i64 0, .int .i64 0, .int .i64 0] 24)).below hb1
  have B6 := (Blk.new (w.alloc (Obj.cells #[.int .i64 a, .int .i64 b, .int .i64 c, .int .i64 d] 24)) #[.int .i64 0, .int .i64 0, .int .i64 0, .int .i64 0] 24).below hb1
  simp at B6
  have c0 := B3.cell 0 rfl
  have c1 := B3.cell 1 rfl
  have c2 := B3.cell 2 rfl
  have c3 := B3.cell 3 rfl
  have f0 := B3.free 0
  have f1 := B3.free 1
  have f2 := B3.free 2
  have f3 := B3.free 3
  have d0 := B6.cell 0 rfl
  have d1 := B6.cell 1 rfl
  have d2 := B6.cell 2 rfl
  have d3 := B6.cell 3 rfl
  have g0 := B6.free 0
  have g1 := B6.free 1
  have g2 := B6.free 2
  have g3 := B6.free 3
  have hz := B6.lt
  have HB := Lib.hid (bstep (bpush (bpush (Below.refl w.heap.size w) _) _) hb1)
  clear B3 B6 hb1
  go_wp2_with (go_at_call 15; refine (within_c _ _ _ _).mono ?_; rintro e1 w' ⟨rfl, rfl⟩)
  refine bodyPost_ret (v := .tuple #[.agg #[.int .i64 0, .int .i64 0, .int .i64 0, .int .i64 0], .bool false]) (by simp [results, Try.results9, go_sem, *] <;> omega) rfl ⟨rfl, ?_⟩
  have HB := HB.out
  repeat (first | with_reducible exact HB | with_reducible refine Below.drew ?_ | with_reducible refine Below.setCell ?_ (by simp <;> omega) _)
set_option maxHeartbeats 1000000 in
theorem upd_impl_no2 (a b c d s e : Int) (w : World) (hv : rttOk a b c d = true) (h1 : inB s 1 999 = false) :
    Calls Try.prog 9 #[.agg #[.int .i64 a, .int .i64 b, .int .i64 c, .int .i64 d], .int .i64 s, .int .i64 e] w fun e1 w' => e1 = .returned (.tuple #[.agg #[.int .i64 0, .int .i64 0, .int .i64 0, .int .i64 0], .bool false]) ∧ Below w.heap.size w w' := by
  go_enter Try.func9, Try.ntmps9
  go_wp2_with fail
  refine (valid_impl _ _ _ _ _).mono ?_
  rintro e1 w1 ⟨rfl, hb1⟩
  have B3 := ((Blk.new w #[.int .i64 a, .int .i64 b, .int .i64 c, .int .i64 d] 24).alloc (Obj.cells #[.int .i64 0, .int .i64 0, .int .i64 0, .int .i64 0] 24)).below hb1
  have B6 := (Blk.new (w.alloc (Obj.cells #[.int .i64 a, .int .i64 b, .int .i64 c, .int .i64 d] 24)) #[.int .i64 0, .int .i64 0, .int .i64 0, .int .i64 0] 24).below hb1
  simp at B6
  have c0 := B3.cell 0 rfl
  have c1 := B3.cell 1 rfl
  have c2 := B3.cell 2 rfl
  have c3 := B3.cell 3 rfl
  have f0 := B3.free 0
  have f1 := B3.free 1
  have f2 := B3.free 2
  have f3 := B3.free 3
  have d0 := B6.cell 0 rfl
  have d1 := B6.cell 1 rfl
  have d2 := B6.cell 2 rfl
  have d3 := B6.cell 3 rfl
  have g0 := B6.free 0
  have g1 := B6.free 1
  have g2 := B6.free 2
  have g3 := B6.free 3
  have hz := B6.lt
  have HB := Lib.hid (bstep (bpush (bpush (Below.refl w.heap.size w) _) _) hb1)
  clear B3 B6 hb1
  go_wp2_with (go_at_call 15; refine (within_c _ _ _ _).mono ?_; rintro e1 w' ⟨rfl, rfl⟩)
  refine bodyPost_ret (v := .tuple #[.agg #[.int .i64 0, .int .i64 0, .int .i64 0, .int .i64 0], .bool false]) (by simp [results, Try.results9, go_sem, *] <;> omega) rfl ⟨rfl, ?_⟩
  have HB := HB.out
  repeat (first | with_reducible exact HB | with_reducible refine Below.drew ?_ | with_reducible refine Below.setCell ?_ (by simp <;> omega) _)
set_option maxHeartbeats 1000000 in
theorem upd_impl_no3 (a b c d s e : Int) (w : World) (hv : rttOk a b c d = true) (h1 : inB s 1 999 = true) (h2 : inB e 0 999 = false) :
    Calls Try.prog 9 #[.agg #[.int .i64 a, .int .i64 b, .int .i64 c, .int .i64 d], .int .i64 s, .int .i64 e] w fun e1 w' => e1 = .returned (.tuple #[.agg #[.int .i64 0, .int .i64 0, .int .i64 0, .int .i64 0], .bool false]) ∧ Below w.heap.size w w' := by
  go_enter Try.func9, Try.ntmps9
  go_wp2_with fail
  refine (valid_impl _ _ _ _ _).mono ?_
  rintro e1 w1 ⟨rfl, hb1⟩
  have B3 := ((Blk.new w #[.int .i64 a, .int .i64 b, .int .i64 c, .int .i64 d] 24).alloc (Obj.cells #[.int .i64 0, .int .i64 0, .int .i64 0, .int .i64 0] 24)).below hb1
  have B6 := (Blk.new (w.alloc (Obj.cells #[.int .i64 a, .int .i64 b, .int .i64 c, .int .i64 d] 24)) #[.int .i64 0, .int .i64 0, .int .i64 0, .int .i64 0] 24).below hb1
  simp at B6
  have c0 := B3.cell 0 rfl
  have c1 := B3.cell 1 rfl
  have c2 := B3.cell 2 rfl
  have c3 := B3.cell 3 rfl
  have f0 := B3.free 0
  have f1 := B3.free 1
  have f2 := B3.free 2
  have f3 := B3.free 3
  have d0 := B6.cell 0 rfl
  have d1 := B6.cell 1 rfl
  have d2 := B6.cell 2 rfl
  have d3 := B6.cell 3 rfl
  have g0 := B6.free 0
  have g1 := B6.free 1
  have g2 := B6.free 2
  have g3 := B6.free 3
  have hz := B6.lt
  have HB := Lib.hid (bstep (bpush (bpush (Below.refl w.heap.size w) _) _) hb1)
  clear B3 B6 hb1
  go_wp2_with (go_at_call 15; refine (within_c _ _ _ _).mono ?_; rintro e1 w' ⟨rfl, rfl⟩)
  refine bodyPost_ret (v := .tuple #[.agg #[.int .i64 0, .int .i64 0, .int .i64 0, .int .i64 0], .bool false]) (by simp [results, Try.results9, go_sem, *] <;> omega) rfl ⟨rfl, ?_⟩
  have HB := HB.out
  repeat (first | with_reducible exact HB | with_reducible refine Below.drew ?_ | with_reducible refine Below.setCell ?_ (by simp <;> omega) _)
set_option maxHeartbeats 4000000 in
theorem upd_impl_zero (s e : Int) (w : World) (h1 : 1 ≤ s ∧ s ≤ 999) (h2 : 0 ≤ e ∧ e ≤ 999) :
    Calls Try.prog 9 #[.agg #[.int .i64 0, .int .i64 0, .int .i64 0, .int .i64 0], .int .i64 s, .int .i64 e] w fun e1 w' => e1 = .returned (.tuple #[.agg #[.int .i64 s, .int .i64 s, .int .i64 (8 * s), .int .i64 (2 * s)], .bool true]) ∧ Below w.heap.size w w' := by
  have hv := rttOk_zero
  have i1 := inB_t h1
  have i2 := inB_t h2
  obtain ⟨h11, h12⟩ := h1
  clear h2
  go_enter Try.func9, Try.ntmps9
  go_wp2_with fail
  refine (valid_impl _ _ _ _ _).mono ?_
  rintro e1 w1 ⟨rfl, hb1⟩
  have B3 := ((Blk.new w #[.int .i64 0, .int .i64 0, .int .i64 0, .int .i64 0] 24).alloc (Obj.cells #[.int .i64 0, .int .i64 0, .int .i64 0, .int .i64 0] 24)).below hb1
  have B6 := (Blk.new (w.alloc (Obj.cells #[.int .i64 0, .int .i64 0, .int .i64 0, .int .i64 0] 24)) #[.int .i64 0, .int .i64 0, .int .i64 0, .int .i64 0] 24).below hb1
  simp at B6
  have c0 := B3.cell 0 rfl
  have c1 := B3.cell 1 rfl
  have c2 := B3.cell 2 rfl
  have c3 := B3.cell 3 rfl
  have f0 := B3.free 0
  have f1 := B3.free 1
  have f2 := B3.free 2
  have f3 := B3.free 3
  have d0 := B6.cell 0 rfl
  have d1 := B6.cell 1 rfl
  have d2 := B6.cell 2 rfl
  have d3 := B6.cell 3 rfl
  have g0 := B6.free 0
  have g1 := B6.free 1
  have g2 := B6.free 2
  have g3 := B6.free 3
  have hz := B6.lt
  have HB := Lib.hid (bstep (bpush (bpush (Below.refl w.heap.size w) _) _) hb1)
  clear B3 B6 hb1
  go_wp2_with (go_at_call 15; refine (within_c _ _ _ _).mono ?_; rintro e1 w' ⟨rfl, rfl⟩)
  refine bodyPost_ret (v := .tuple #[.agg #[.int .i64 s, .int .i64 s, .int .i64 (8 * s), .int .i64 (2 * s)], .bool true]) (by simp [results, Try.results9, go_sem, *] <;> omega) rfl ⟨rfl, ?_⟩
  have HB := HB.out
  repeat (first | with_reducible exact HB | with_reducible refine Below.drew ?_ | with_reducible refine Below.setCell ?_ (by simp <;> omega) _)
set_option maxHeartbeats 4000000 in
theorem upd_impl_yes (a b c d s e B N D : Int) (w : World) (hv : rttOk a b c d = true) (ha : a ≠ 0) (h1 : 1 ≤ s ∧ s ≤ 999) (h2 : 0 ≤ e ∧ e ≤ 999)
    (hB : (s < b ∧ s = B) ∨ (b ≤ s ∧ b = B)) (hN : (s - e < B ∧ s = N) ∨ (B ≤ s - e ∧ s - e = N)) (hD : (c / 8 - N < 0 ∧ -(c / 8 - N) = D) ∨ (0 ≤ c / 8 - N ∧ c / 8 - N = D)) :
    Calls Try.prog 9 #[.agg #[.int .i64 a, .int .i64 b, .int .i64 c, .int .i64 d], .int .i64 s, .int .i64 e] w fun e1 w' => e1 = .returned (.tuple #[.agg #[.int .i64 s, .int .i64 B, .int .i64 (c + (N - c / 8)), .int .i64 (d + (D - d / 4))], .bool true]) ∧ Below w.heap.size w w' := by
  have i1 := inB_t h1
  have i2 := inB_t h2
  obtain ⟨⟨k1, k2⟩, ⟨k3, k4⟩, ⟨k5, k6⟩, k7, k8⟩ := rttOk_t hv ha
  have ha' : (a == 0) = false := by simp [ha]
  obtain ⟨h11, h12⟩ := h1
  obtain ⟨h21, h22⟩ := h2
  clear ha
  rcases hB with ⟨hB, rfl⟩ | ⟨hB, rfl⟩ <;> rcases hN with ⟨hN, rfl⟩ | ⟨hN, rfl⟩ <;> rcases hD with ⟨hD, rfl⟩ | ⟨hD, rfl⟩
  all_goals
    go_enter Try.func9, Try.ntmps9
    go_wp2_with fail
    refine (valid_impl _ _ _ _ _).mono ?_
    rintro e1 w1 ⟨rfl, hb1⟩
    have B3 := ((Blk.new w #[.int .i64 a, .int .i64 b, .int .i64 c, .int .i64 d] 24).alloc (Obj.cells #[.int .i64 0, .int .i64 0, .int .i64 0, .int .i64 0] 24)).below hb1
    have B6 := (Blk.new (w.alloc (Obj.cells #[.int .i64 a, .int .i64 b, .int .i64 c, .int .i64 d] 24)) #[.int .i64 0, .int .i64 0, .int .i64 0, .int .i64 0] 24).below hb1
    simp at B6
    have c0 := B3.cell 0 rfl
    have c1 := B3.cell 1 rfl
    have c2 := B3.cell 2 rfl
    have c3 := B3.cell 3 rfl
    have f0 := B3.free 0
    have f1 := B3.free 1
    have f2 := B3.free 2
    have f3 := B3.free 3
    have d0 := B6.cell 0 rfl
    have d1 := B6.cell 1 rfl
    have d2 := B6.cell 2 rfl
    have d3 := B6.cell 3 rfl
    have g0 := B6.free 0
    have g1 := B6.free 1
    have g2 := B6.free 2
    have g3 := B6.free 3
    have hz := B6.lt
    have HB := Lib.hid (bstep (bpush (bpush (Below.refl w.heap.size w) _) _) hb1)
    clear B3 B6 hb1
    go_wp2_with (go_at_call 15; refine (within_c _ _ _ _).mono ?_; rintro e1 w' ⟨rfl, rfl⟩)
    refine bodyPost_ret ?hr rfl ⟨rfl, ?_⟩
    case hr =>
      simp only [results, Try.results9]
      go_simp
    have HB := HB.out
    repeat (first | with_reducible exact HB | with_reducible refine Below.drew ?_ | with_reducible refine Below.setCell ?_ (by simp <;> omega) _)
set_option maxHeartbeats 4000000 in
theorem upd_impl (a b c d s e : Int) (w : World) :
    Calls Try.prog 9 #[.agg #[.int .i64 a, .int .i64 b, .int .i64 c, .int .i64 d], .int .i64 s, .int .i64 e] w fun e1 w' => e1 = .returned (.tuple #[.agg #[.int .i64 (rA a b c d s e), .int .i64 (rB a b c d s e), .int .i64 (rC a b c d s e), .int .i64 (rD a b c d s e)], .bool (upOk a b c d s e)]) ∧ Below w.heap.size w w' := by
  cases hu : upOk a b c d s e
  · simp only [rA, rB, rC, rD, hu, Bool.false_eq_true, if_false]
    cases hv : rttOk a b c d
    · exact upd_impl_no1 a b c d s e w hv
    · cases h1 : inB s 1 999
      · exact upd_impl_no2 a b c d s e w hv h1
      · cases h2 : inB e 0 999
        · exact upd_impl_no3 a b c d s e w hv h1 h2
        · simp [upOk, hv, h1, h2] at hu
  · obtain ⟨hv, h1, h2⟩ := upOk_t hu
    simp only [rA, rB, rC, rD, hu, if_true]
    by_cases ha : a = 0
    · subst ha
      obtain ⟨rfl, rfl, rfl⟩ := rttOk_a hv rfl
      simp only [if_true]
      exact upd_impl_zero s e w h1 h2
    · simp only [ha, if_false]
      refine upd_impl_yes a b c d s e (uB b s) (uN b s e) _ w hv ha h1 h2 ?_ ?_ ?_
      · unfold uB; split <;> omega
      · unfold uN; split <;> omega
      · split <;> omega
end Go.Proofs.Ythaoiaphgmaadaa
