/- A ticket presented to a register: the reference. -/
import Derived.Test.YtjlaikmilcgmhaaGs
namespace Go.Proofs.Ytjlaikmilcgmhaa
open Go.RowKit
set_option linter.unusedVariables false

set_option maxHeartbeats 4000000 in
theorem rtry_nos (now : Int) (t : Int × Int) (a : Option Addr) (n cap : Nat) (l : List (Int × Int)) (w : World) (hl : l.length = n) (S : Sl 2 w w.heap.size a n (tkG l)) (hno : tryOk now l t = false) :
    Calls Try.prog 27 #[.agg #[.int .i64 now, .slice a n cap], .agg #[.int .i64 t.1, .int .i64 t.2]] w (Stepped w 0 [] false) := by
  have hb0 := bpush (bpush (bpush (Below.refl w.heap.size w) (Obj.cells #[.int .i64 now, .slice a n cap] 42)) (Obj.cells #[.int .i64 t.1, .int .i64 t.2] 30)) (Obj.cells #[.int .i64 0, .slice none 0 0] 42)
  have T0 := (Blk.new (w.alloc (Obj.cells #[.int .i64 now, .slice a n cap] 42)) #[.int .i64 t.1, .int .i64 t.2] 30).alloc (Obj.cells #[.int .i64 0, .slice none 0 0] 42)
  have R0 := Blk.new ((w.alloc (Obj.cells #[.int .i64 now, .slice a n cap] 42)).alloc (Obj.cells #[.int .i64 t.1, .int .i64 t.2] 30)) #[.int .i64 0, .slice none 0 0] 42
  simp only [World.size_alloc] at R0 T0
  have HV := Lib.hid (rvalid_spec now a n cap l _ hl ((S.below hb0).mono hb0.size))
  unfold tryOk at hno
  clear S
  cases b1 : regOk now l
  · go_enter Try.func27, Try.ntmps27
    go_wp2_with fail
    refine HV.out.mono ?_
    rintro e w1 ⟨rfl, hb1⟩
    rw [b1]
    have hB := bstep hb0 hb1
    have R1 := R0.below hb1
    have c0 := R1.cell 0 rfl
    have c1 := R1.cell 1 rfl
    have f0 := R1.free 0
    have f1 := R1.free 1
    clear HV b1 R0 T0 hno
    go_wp2_with fail
    refine bodyPost_ret (v := .tuple #[.agg #[.int .i64 0, .slice none 0 0], .bool false]) ?_ rfl ⟨none, 0, rfl, ?_, Ow.none _ _ _ _ _⟩
    · simp only [results, Try.results27]
      go_simp
    · repeat (first | with_reducible exact hB | with_reducible refine Below.setCell ?_ (by simp <;> omega) _)
  · rw [b1] at hno
    have b2 : tkOk t.1 t.2 = false := by simpa using hno
    go_enter Try.func27, Try.ntmps27
    go_wp2_with fail
    refine HV.out.mono ?_
    rintro e w1 ⟨rfl, hb1⟩
    rw [b1]
    have hB1 := bstep hb0 hb1
    have R1 := R0.below hb1
    have d0 := (T0.below hb1).cell 0 rfl
    have d1 := (T0.below hb1).cell 1 rfl
    clear HV b1 R0 T0 hno
    go_wp2_with fail
    refine (isT_spec t.1 t.2 _).mono ?_
    rintro e w2 ⟨rfl, hb2⟩
    rw [b2]
    have hB := bstep hB1 hb2
    have R2 := R1.below hb2
    have c0 := R2.cell 0 rfl
    have c1 := R2.cell 1 rfl
    have f0 := R2.free 0
    have f1 := R2.free 1
    clear d0 d1 R1 b2
    go_wp2_with fail
    refine bodyPost_ret (v := .tuple #[.agg #[.int .i64 0, .slice none 0 0], .bool false]) ?_ rfl ⟨none, 0, rfl, ?_, Ow.none _ _ _ _ _⟩
    · simp only [results, Try.results27]
      go_simp
    · repeat (first | with_reducible exact hB | with_reducible refine Below.setCell ?_ (by simp <;> omega) _)

theorem tryS_accS {now : Int} {l : TL} {t : Int × Int} (h : tryOk now l t = true) : tryN now l t = now ∧ tryS now l t = accS now l t ∧ tryV now l t = accT now l t := by
  unfold tryN tryS tryV accS
  rw [h]
  exact ⟨rfl, rfl, rfl⟩
theorem accS_len (now : Int) (l : TL) (t : Int × Int) : (accS now l t).length ≤ l.length + 1 := by
  unfold accS; split
  · rw [insT_length]; omega
  · omega
set_option maxHeartbeats 4000000 in
theorem rtry_spec (now : Int) (t : Int × Int) (a : Option Addr) (n cap : Nat) (l : List (Int × Int)) (w : World) (hl : l.length = n) (hcap : n ≤ cap) (S : Sl 2 w w.heap.size a n (tkG l)) :
    Calls Try.prog 27 #[.agg #[.int .i64 now, .slice a n cap], .agg #[.int .i64 t.1, .int .i64 t.2]] w (Stepped w (tryN now l t) (tryS now l t) (tryV now l t)) := by
  cases hok : tryOk now l t
  · obtain ⟨E1, E2, E3⟩ := try_no hok
    rw [E1, E2, E3]
    exact rtry_nos now t a n cap l w hl S hok
  obtain ⟨E1, E2, E3⟩ := tryS_accS hok
  rw [E1, E2, E3]
  clear E1 E2 E3
  unfold tryOk at hok
  simp only [Bool.and_eq_true] at hok
  obtain ⟨b1, b2⟩ := hok
  obtain ⟨⟨h3, h4⟩, h5, h6, hsrt⟩ := regOk_iff.1 b1
  rw [hl] at h5
  have hb0 := bpush (bpush (bpush (Below.refl w.heap.size w) (Obj.cells #[.int .i64 now, .slice a n cap] 42)) (Obj.cells #[.int .i64 t.1, .int .i64 t.2] 30)) (Obj.cells #[.int .i64 0, .slice none 0 0] 42)
  have B0 := ((Blk.new w #[.int .i64 now, .slice a n cap] 42).alloc (Obj.cells #[.int .i64 t.1, .int .i64 t.2] 30)).alloc (Obj.cells #[.int .i64 0, .slice none 0 0] 42)
  have T0 := (Blk.new (w.alloc (Obj.cells #[.int .i64 now, .slice a n cap] 42)) #[.int .i64 t.1, .int .i64 t.2] 30).alloc (Obj.cells #[.int .i64 0, .slice none 0 0] 42)
  have R0 := Blk.new ((w.alloc (Obj.cells #[.int .i64 now, .slice a n cap] 42)).alloc (Obj.cells #[.int .i64 t.1, .int .i64 t.2] 30)) #[.int .i64 0, .slice none 0 0] 42
  simp only [World.size_alloc] at R0 T0
  have HV := Lib.hid (rvalid_spec now a n cap l _ hl ((S.below hb0).mono hb0.size))
  have HS := Lib.hid S
  have HR := Lib.hid hsrt
  have hal := accS_len now l t
  clear S h6 hsrt
  go_enter Try.func27, Try.ntmps27
  go_wp2_with fail
  refine HV.out.mono ?_
  rintro e w1 ⟨rfl, hb1⟩
  rw [b1]
  have hB1 := bstep hb0 hb1
  have B1 := B0.below hb1
  have T1 := T0.below hb1
  have R1 := R0.below hb1
  have d0 := T1.cell 0 rfl
  have d1 := T1.cell 1 rfl
  clear HV b1 R0 T0 B0 hb0 hb1
  go_wp2_with fail
  refine (isT_spec t.1 t.2 _).mono ?_
  rintro e w2 ⟨rfl, hb2⟩
  rw [b2]
  have hB2 := bstep hB1 hb2
  have B2 := B1.below hb2
  have T2 := T1.below hb2
  have R2 := R1.below hb2
  have x0 := B2.cell 0 rfl
  have x1 := B2.cell 1 rfl
  have y0 := T2.cell 0 rfl
  have y1 := T2.cell 1 rfl
  have HT := Lib.hid (l13try_c now t a n cap l w2 hl h5 hcap (by omega) (by omega) HR.out ((HS.out.below hB2).mono hB2.size))
  clear d0 d1 R1 T1 B1 hB1 hb2 b2
  go_wp2_with fail
  refine HT.out.mono ?_
  rintro e w3 ⟨a3, c3, rfl, hb3, own3⟩
  have hB3 := bstep hB2 hb3
  have R3 := R2.below hb3
  have c0 := R3.cell 0 rfl
  have c1 := R3.cell 1 rfl
  have f0 := R3.free 0
  have f1 := R3.free 1
  have q := R2.lt
  have hz := hB2.size
  have HO := Lib.hid (ow_of_row own3 (by omega) (fun i hi j hj => flat_at _ i hi j hj))
  clear R2 B2 T2 x0 x1 y0 y1 hb3 HT hB2 own3
  go_wp2_with fail
  refine bodyPost_ret (v := .tuple #[.agg #[.int .i64 now, .slice a3 (accS now l t).length c3], .bool (accT now l t)]) ?_ rfl ⟨a3, c3, rfl, ?_, ?_⟩
  · simp only [results, Try.results27]
    go_simp
  · repeat (first | with_reducible exact hB3 | with_reducible refine Below.setCell ?_ (by simp <;> omega) _)
  · refine Ow.mono (Ow.chg HO.out (lo := w.heap.size) (hi := w2.heap.size) ?_ (Nat.le_refl _)) hz
    repeat (first | with_reducible exact Chg.refl _ _ _ | with_reducible refine Chg.set ?_ (.inl ⟨by omega, by omega⟩) _ _)
end Go.Proofs.Ytjlaikmilcgmhaa
