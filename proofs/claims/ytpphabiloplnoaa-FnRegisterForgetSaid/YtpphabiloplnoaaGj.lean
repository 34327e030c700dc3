/- Time goes on: the reference, with its test. -/
import Derived.Test.YtpphabiloplnoaaGi
namespace Go.Proofs.Ytpphabiloplnoaa
open Go.RowKit
set_option linter.unusedVariables false

set_option maxHeartbeats 2000000 in
theorem rtick_spec (now c : Int) (a : Option Addr) (n cap : Nat) (l : List (Int × Int)) (w : World) (hl : l.length = n) (S : Sl 2 w w.heap.size a n (tkG l)) :
    Calls Try.prog 25 #[.agg #[.int .i64 now, .slice a n cap], .int .i64 c] w (Stepped w (tickN now l c) (tickS now l c) (tickOk now l c)) := by
  have hn := S.len
  have hb0 := bpush (bpush (Below.refl w.heap.size w) (Obj.cells #[.int .i64 now, .slice a n cap] 34)) (Obj.cells #[.int .i64 0, .slice none 0 0] 34)
  have B0 := (Blk.new w #[.int .i64 now, .slice a n cap] 34).alloc (Obj.cells #[.int .i64 0, .slice none 0 0] 34)
  have R0 := Blk.new (w.alloc (Obj.cells #[.int .i64 now, .slice a n cap] 34)) #[.int .i64 0, .slice none 0 0] 34
  rw [World.size_alloc] at R0
  have HV := Lib.hid (rvalid_spec now a n cap l _ hl ((S.below hb0).mono hb0.size))
  have HS := Lib.hid S; clear S
  cases b1 : regOk now l
  · have E1 : tickN now l c = 0 := by unfold tickN tickOk; rw [b1]; rfl
    have E2 : tickS now l c = [] := by unfold tickS tickOk; rw [b1]; rfl
    have E3 : tickOk now l c = false := by unfold tickOk; rw [b1]; rfl
    rw [E1, E2, E3]
    clear E1 E2 E3
    go_enter Try.func25, Try.ntmps25
    go_wp2_with fail
    refine HV.out.mono ?_
    rintro e w1 ⟨rfl, hb1⟩
    rw [b1]
    have hB := bstep hb0 hb1
    have R1 := R0.below hb1
    have c0 := R1.cell 0 rfl
    have c1 := R1.cell 1 rfl
    have f0 := R1.free 0
    have f1 := R1.free 1
    clear HV b1 R0 B0
    go_wp2_with fail
    refine bodyPost_ret (v := .tuple #[.agg #[.int .i64 0, .slice none 0 0], .bool false]) ?_ rfl ⟨none, 0, rfl, ?_, Ow.none _ _ _ _ _⟩
    · simp only [results, Try.results25]
      go_simp
    · repeat (first | with_reducible exact hB | with_reducible refine Below.setCell ?_ (by simp <;> omega) _)
  cases b2 : inB c now 999
  · have E1 : tickN now l c = 0 := by unfold tickN tickOk; rw [b1, b2]; rfl
    have E2 : tickS now l c = [] := by unfold tickS tickOk; rw [b1, b2]; rfl
    have E3 : tickOk now l c = false := by unfold tickOk; rw [b1, b2]; rfl
    rw [E1, E2, E3]
    clear E1 E2 E3
    go_enter Try.func25, Try.ntmps25
    go_wp2_with fail
    refine HV.out.mono ?_
    rintro e w1 ⟨rfl, hb1⟩
    rw [b1]
    have hB := bstep hb0 hb1
    have R1 := R0.below hb1
    have c0 := R1.cell 0 rfl
    have c1 := R1.cell 1 rfl
    have f0 := R1.free 0
    have f1 := R1.free 1
    have d0 := (B0.below hb1).cell 0 rfl
    clear HV b1 R0 B0
    go_wp2_with (go_at_call 35; refine (l6In_c _ _ _ _).mono ?_; rintro e w' ⟨rfl, rfl⟩)
    refine bodyPost_ret (v := .tuple #[.agg #[.int .i64 0, .slice none 0 0], .bool false]) ?_ rfl ⟨none, 0, rfl, ?_, Ow.none _ _ _ _ _⟩
    · simp only [results, Try.results25]
      go_simp
    · repeat (first | with_reducible exact hB | with_reducible refine Below.setCell ?_ (by simp <;> omega) _)
  obtain ⟨h1, h2⟩ : now ≤ c ∧ c ≤ 999 := by simpa [inB] using b2
  obtain ⟨⟨h3, h4⟩, h5, _⟩ := regOk_t b1
  rw [hl] at h5
  have E3 : tickOk now l c = true := by unfold tickOk; rw [b1, b2]; rfl
  have E1 : tickN now l c = c := by unfold tickN; rw [E3]; rfl
  have E2 : tickS now l c = tickL c l := by unfold tickS; rw [E3]; rfl
  rw [E1, E2, E3]
  clear E1 E2 E3
  go_enter Try.func25, Try.ntmps25
  go_wp2_with fail
  refine HV.out.mono ?_
  rintro e w1 ⟨rfl, hb1⟩
  rw [b1]
  have hB := bstep hb0 hb1
  have R1 := R0.below hb1
  have d0 := (B0.below hb1).cell 0 rfl
  have d1 := (B0.below hb1).cell 1 rfl
  have HT := Lib.hid (l13tick_c now c a n cap l w1 hl (by omega) (by omega) (by omega) ((HS.out.below hB).mono hB.size))
  clear HV b1 R0 B0 hb1
  go_wp2_with (go_at_call 35; refine (l6In_c _ _ _ _).mono ?_; rintro e w' ⟨rfl, rfl⟩)
  refine HT.out.mono ?_
  rintro e w2 ⟨av, capv, rfl, hb2, ho2⟩
  have hB2 := bstep hB hb2
  have R2 := R1.below hb2
  have c0 := R2.cell 0 rfl
  have c1 := R2.cell 1 rfl
  have f0 := R2.free 0
  have f1 := R2.free 1
  have q := R1.lt
  have hz := hB.size
  clear R1 d0 d1 hb2 HT hB
  go_wp2_with fail
  refine bodyPost_ret (v := .tuple #[.agg #[.int .i64 c, .slice av (tickL c l).length capv], .bool true]) ?_ rfl ⟨av, capv, rfl, ?_, ?_⟩
  · simp only [results, Try.results25]
    go_simp
  · repeat (first | with_reducible exact hB2 | with_reducible refine Below.setCell ?_ (by simp <;> omega) _)
  · refine Ow.mono (Ow.chg ho2 (lo := w.heap.size) (hi := w1.heap.size) ?_ (Nat.le_refl _)) hz
    repeat (first | with_reducible exact Chg.refl _ _ _ | with_reducible refine Chg.set ?_ (.inl (by simp <;> omega)) _ _)
end Go.Proofs.Ytpphabiloplnoaa
