/- The smoothed value moves toward the sample.
   No condition: it holds for every input. -/
import Derived.Test.YthaoiaphgmaadaaRows
import Derived.WalkKit
import Derived.ProofKit
import Derived.OpenShut
import Derived.ShutString
import Derived.ChangeOld
import Derived.Below
import Derived.Lib.SmallJoins
import Derived.Test.YthaoiaphgmaadaaRz
namespace Go.Proofs.Ythaoiaphgmaadaa.fnRttToward
open Go.ChangeShapes Go.WideShapes Go.ChangeAt Go.RowKit Go.Joins
open Go.ChangeMaps (open_string shut_string)
set_option linter.unusedVariables false

set_option maxHeartbeats 1000000 in
theorem walk (a0 : Option Addr) (len0 cap0 : Nat) (z0 : List Int) (w : World) (w0 : IsRow .u8 w a0 len0 cap0 z0) :
    Calls Try.prog 6 #[.slice a0 len0 cap0] w fun e w' => e = .returned (.bool true) ∧ Below w.heap.size w w' := by
  by_cases hb : (1048576 : Int) < (len0 : Int)
  · go_enter Try.func6, Try.ntmps6
    go_wp2
    go_ret
    exact ⟨rfl, Below.refl _ _⟩
  have HD := Lib.hid (draw_upd w a0 len0 cap0 z0 w0)
  clear w0
  go_enter Try.func6, Try.ntmps6
  go_wp2_with fail
  refine HD.out.mono ?_
  rintro e1 w1 ⟨a, b, c, d, s, e, rfl, ⟨hs1, hs2⟩, ⟨he1, he2⟩, hb1⟩
  clear HD
  have T1 := bpush hb1 (Obj.cells #[.int .i64 a, .int .i64 b, .int .i64 c, .int .i64 d] 24)
  cases hu : upOk a b c d s e
  · go_wp2_with fail
    refine (upd_impl _ _ _ _ _ _ _).mono ?_
    rintro e1 w2 ⟨rfl, hb2⟩
    have X2 := (Blk.new w1 #[.int .i64 a, .int .i64 b, .int .i64 c, .int .i64 d] 24).below hb2
    have x20 := X2.cell 0 rfl
    have x21 := X2.cell 1 rfl
    have x22 := X2.cell 2 rfl
    have x23 := X2.cell 3 rfl
    have q12 := X2.lt
    go_wp2_with fail
    refine (upd_spec _ _ _ _ _ _ _).mono ?_
    rintro e1 w3 ⟨rfl, hb3⟩
    have X3 := (X2.alloc (Obj.cells #[.int .i64 (rA a b c d s e), .int .i64 (rB a b c d s e), .int .i64 (rC a b c d s e), .int .i64 (rD a b c d s e)] 24)).below hb3
    have x30 := X3.cell 0 rfl
    have x31 := X3.cell 1 rfl
    have x32 := X3.cell 2 rfl
    have x33 := X3.cell 3 rfl
    have q13 := X3.lt
    have O3 := (Blk.new w2 #[.int .i64 (rA a b c d s e), .int .i64 (rB a b c d s e), .int .i64 (rC a b c d s e), .int .i64 (rD a b c d s e)] 24).below hb3
    have o30 := O3.cell 0 rfl
    have o31 := O3.cell 1 rfl
    have o32 := O3.cell 2 rfl
    have o33 := O3.cell 3 rfl
    have q23 := O3.lt
    have T3 := bpush (bstep (bpush (bstep T1 hb2) (Obj.cells #[.int .i64 (rA a b c d s e), .int .i64 (rB a b c d s e), .int .i64 (rC a b c d s e), .int .i64 (rD a b c d s e)] 24)) hb3) (Obj.cells #[.int .i64 (rA a b c d s e), .int .i64 (rB a b c d s e), .int .i64 (rC a b c d s e), .int .i64 (rD a b c d s e)] 24)
    clear hb2 hb3 X2
    clear X3 O3
    go_wp2_with fail
    go_ret
    exact ⟨rfl, T3⟩
  · obtain ⟨hv, hs, he⟩ := upOk_t hu
    have EA : rA a b c d s e = s := by simp [rA, hu]
    obtain ⟨hs3, hs4⟩ := hs
    have F0 : upOk a b c d s 0 = true := upOk_mk hv ⟨hs3, hs4⟩ (by omega)
    by_cases ha : a = 0
    · have ha' : (a == 0) = true := by simp [ha]
      clear ha
      
      go_wp2_with fail
      refine (upd_impl _ _ _ _ _ _ _).mono ?_
      rintro e1 w2 ⟨rfl, hb2⟩
      have X2 := (Blk.new w1 #[.int .i64 a, .int .i64 b, .int .i64 c, .int .i64 d] 24).below hb2
      have x20 := X2.cell 0 rfl
      have x21 := X2.cell 1 rfl
      have x22 := X2.cell 2 rfl
      have x23 := X2.cell 3 rfl
      have q12 := X2.lt
      go_wp2_with fail
      refine (upd_spec _ _ _ _ _ _ _).mono ?_
      rintro e1 w3 ⟨rfl, hb3⟩
      have X3 := (X2.alloc (Obj.cells #[.int .i64 s, .int .i64 (rB a b c d s e), .int .i64 (rC a b c d s e), .int .i64 (rD a b c d s e)] 24)).below hb3
      have x30 := X3.cell 0 rfl
      have x31 := X3.cell 1 rfl
      have x32 := X3.cell 2 rfl
      have x33 := X3.cell 3 rfl
      have q13 := X3.lt
      have O3 := (Blk.new w2 #[.int .i64 s, .int .i64 (rB a b c d s e), .int .i64 (rC a b c d s e), .int .i64 (rD a b c d s e)] 24).below hb3
      have o30 := O3.cell 0 rfl
      have o31 := O3.cell 1 rfl
      have o32 := O3.cell 2 rfl
      have o33 := O3.cell 3 rfl
      have q23 := O3.lt
      have T3 := bpush (bstep (bpush (bstep T1 hb2) (Obj.cells #[.int .i64 s, .int .i64 (rB a b c d s e), .int .i64 (rC a b c d s e), .int .i64 (rD a b c d s e)] 24)) hb3) (Obj.cells #[.int .i64 s, .int .i64 (rB a b c d s e), .int .i64 (rC a b c d s e), .int .i64 (rD a b c d s e)] 24)
      clear hb2 hb3 X2
      go_wp2_with fail
      refine (upd_impl _ _ _ _ _ _ _).mono ?_
      rintro e1 w4 ⟨rfl, hb4⟩
      have X4 := (X3.alloc _).below hb4
      have x40 := X4.cell 0 rfl
      have x41 := X4.cell 1 rfl
      have x42 := X4.cell 2 rfl
      have x43 := X4.cell 3 rfl
      have O4 := (O3.alloc _).below hb4
      have o40 := O4.cell 0 rfl
      have o41 := O4.cell 1 rfl
      have o42 := O4.cell 2 rfl
      have o43 := O4.cell 3 rfl
      have q14 := X4.lt
      have q24 := O4.lt
      clear X3 X4 O3 O4
      go_wp2_with fail
      go_ret
      exact ⟨by first | rfl | (simp <;> omega), bpush (bstep T3 hb4) _⟩
    · have ha' : (a == 0) = false := by simp [ha]
      have hub := uB_bd F0 ha
      have hN : uN b s 0 = s := by unfold uN; split <;> omega
      have FC : rC a b c d s 0 = c + (s - c / 8) := by simp only [rC, F0, if_true, ha, if_false, hN, uC]
      obtain ⟨_, _, ⟨h5, h6⟩, _⟩ := rttOk_t hv ha
      clear hN hub ha
      rcases show s < c / 8 ∨ s = c / 8 ∨ c / 8 < s by omega with g | g | g
      · have g1 : c + (s - c / 8) < c := by omega
        
        go_wp2_with fail
        refine (upd_impl _ _ _ _ _ _ _).mono ?_
        rintro e1 w2 ⟨rfl, hb2⟩
        have X2 := (Blk.new w1 #[.int .i64 a, .int .i64 b, .int .i64 c, .int .i64 d] 24).below hb2
        have x20 := X2.cell 0 rfl
        have x21 := X2.cell 1 rfl
        have x22 := X2.cell 2 rfl
        have x23 := X2.cell 3 rfl
        have q12 := X2.lt
        go_wp2_with fail
        refine (upd_spec _ _ _ _ _ _ _).mono ?_
        rintro e1 w3 ⟨rfl, hb3⟩
        have X3 := (X2.alloc (Obj.cells #[.int .i64 s, .int .i64 (rB a b c d s e), .int .i64 (rC a b c d s e), .int .i64 (rD a b c d s e)] 24)).below hb3
        have x30 := X3.cell 0 rfl
        have x31 := X3.cell 1 rfl
        have x32 := X3.cell 2 rfl
        have x33 := X3.cell 3 rfl
        have q13 := X3.lt
        have O3 := (Blk.new w2 #[.int .i64 s, .int .i64 (rB a b c d s e), .int .i64 (rC a b c d s e), .int .i64 (rD a b c d s e)] 24).below hb3
        have o30 := O3.cell 0 rfl
        have o31 := O3.cell 1 rfl
        have o32 := O3.cell 2 rfl
        have o33 := O3.cell 3 rfl
        have q23 := O3.lt
        have T3 := bpush (bstep (bpush (bstep T1 hb2) (Obj.cells #[.int .i64 s, .int .i64 (rB a b c d s e), .int .i64 (rC a b c d s e), .int .i64 (rD a b c d s e)] 24)) hb3) (Obj.cells #[.int .i64 s, .int .i64 (rB a b c d s e), .int .i64 (rC a b c d s e), .int .i64 (rD a b c d s e)] 24)
        clear hb2 hb3 X2
        go_wp2_with fail
        refine (upd_impl _ _ _ _ _ _ _).mono ?_
        rintro e1 w4 ⟨rfl, hb4⟩
        have X4 := (X3.alloc _).below hb4
        have x40 := X4.cell 0 rfl
        have x41 := X4.cell 1 rfl
        have x42 := X4.cell 2 rfl
        have x43 := X4.cell 3 rfl
        have O4 := (O3.alloc _).below hb4
        have o40 := O4.cell 0 rfl
        have o41 := O4.cell 1 rfl
        have o42 := O4.cell 2 rfl
        have o43 := O4.cell 3 rfl
        have q14 := X4.lt
        have q24 := O4.lt
        clear X3 X4 O3 O4
        go_wp2_with fail
        go_ret
        exact ⟨by first | rfl | (simp <;> omega), bpush (bstep T3 hb4) _⟩
      · have g1 : c + (s - c / 8) = c := by omega
        have g2 : ¬ s < c / 8 := by omega
        have g3 : ¬ c / 8 < s := by omega
        clear g
        
        go_wp2_with fail
        refine (upd_impl _ _ _ _ _ _ _).mono ?_
        rintro e1 w2 ⟨rfl, hb2⟩
        have X2 := (Blk.new w1 #[.int .i64 a, .int .i64 b, .int .i64 c, .int .i64 d] 24).below hb2
        have x20 := X2.cell 0 rfl
        have x21 := X2.cell 1 rfl
        have x22 := X2.cell 2 rfl
        have x23 := X2.cell 3 rfl
        have q12 := X2.lt
        go_wp2_with fail
        refine (upd_spec _ _ _ _ _ _ _).mono ?_
        rintro e1 w3 ⟨rfl, hb3⟩
        have X3 := (X2.alloc (Obj.cells #[.int .i64 s, .int .i64 (rB a b c d s e), .int .i64 (rC a b c d s e), .int .i64 (rD a b c d s e)] 24)).below hb3
        have x30 := X3.cell 0 rfl
        have x31 := X3.cell 1 rfl
        have x32 := X3.cell 2 rfl
        have x33 := X3.cell 3 rfl
        have q13 := X3.lt
        have O3 := (Blk.new w2 #[.int .i64 s, .int .i64 (rB a b c d s e), .int .i64 (rC a b c d s e), .int .i64 (rD a b c d s e)] 24).below hb3
        have o30 := O3.cell 0 rfl
        have o31 := O3.cell 1 rfl
        have o32 := O3.cell 2 rfl
        have o33 := O3.cell 3 rfl
        have q23 := O3.lt
        have T3 := bpush (bstep (bpush (bstep T1 hb2) (Obj.cells #[.int .i64 s, .int .i64 (rB a b c d s e), .int .i64 (rC a b c d s e), .int .i64 (rD a b c d s e)] 24)) hb3) (Obj.cells #[.int .i64 s, .int .i64 (rB a b c d s e), .int .i64 (rC a b c d s e), .int .i64 (rD a b c d s e)] 24)
        clear hb2 hb3 X2
        go_wp2_with fail
        refine (upd_impl _ _ _ _ _ _ _).mono ?_
        rintro e1 w4 ⟨rfl, hb4⟩
        have X4 := (X3.alloc _).below hb4
        have x40 := X4.cell 0 rfl
        have x41 := X4.cell 1 rfl
        have x42 := X4.cell 2 rfl
        have x43 := X4.cell 3 rfl
        have O4 := (O3.alloc _).below hb4
        have o40 := O4.cell 0 rfl
        have o41 := O4.cell 1 rfl
        have o42 := O4.cell 2 rfl
        have o43 := O4.cell 3 rfl
        have q14 := X4.lt
        have q24 := O4.lt
        clear X3 X4 O3 O4
        go_wp2_with fail
        go_ret
        exact ⟨by first | rfl | (simp <;> omega), bpush (bstep T3 hb4) _⟩
      · have g1 : c < c + (s - c / 8) := by omega
        
        go_wp2_with fail
        refine (upd_impl _ _ _ _ _ _ _).mono ?_
        rintro e1 w2 ⟨rfl, hb2⟩
        have X2 := (Blk.new w1 #[.int .i64 a, .int .i64 b, .int .i64 c, .int .i64 d] 24).below hb2
        have x20 := X2.cell 0 rfl
        have x21 := X2.cell 1 rfl
        have x22 := X2.cell 2 rfl
        have x23 := X2.cell 3 rfl
        have q12 := X2.lt
        go_wp2_with fail
        refine (upd_spec _ _ _ _ _ _ _).mono ?_
        rintro e1 w3 ⟨rfl, hb3⟩
        have X3 := (X2.alloc (Obj.cells #[.int .i64 s, .int .i64 (rB a b c d s e), .int .i64 (rC a b c d s e), .int .i64 (rD a b c d s e)] 24)).below hb3
        have x30 := X3.cell 0 rfl
        have x31 := X3.cell 1 rfl
        have x32 := X3.cell 2 rfl
        have x33 := X3.cell 3 rfl
        have q13 := X3.lt
        have O3 := (Blk.new w2 #[.int .i64 s, .int .i64 (rB a b c d s e), .int .i64 (rC a b c d s e), .int .i64 (rD a b c d s e)] 24).below hb3
        have o30 := O3.cell 0 rfl
        have o31 := O3.cell 1 rfl
        have o32 := O3.cell 2 rfl
        have o33 := O3.cell 3 rfl
        have q23 := O3.lt
        have T3 := bpush (bstep (bpush (bstep T1 hb2) (Obj.cells #[.int .i64 s, .int .i64 (rB a b c d s e), .int .i64 (rC a b c d s e), .int .i64 (rD a b c d s e)] 24)) hb3) (Obj.cells #[.int .i64 s, .int .i64 (rB a b c d s e), .int .i64 (rC a b c d s e), .int .i64 (rD a b c d s e)] 24)
        clear hb2 hb3 X2
        go_wp2_with fail
        refine (upd_impl _ _ _ _ _ _ _).mono ?_
        rintro e1 w4 ⟨rfl, hb4⟩
        have X4 := (X3.alloc _).below hb4
        have x40 := X4.cell 0 rfl
        have x41 := X4.cell 1 rfl
        have x42 := X4.cell 2 rfl
        have x43 := X4.cell 3 rfl
        have O4 := (O3.alloc _).below hb4
        have o40 := O4.cell 0 rfl
        have o41 := O4.cell 1 rfl
        have o42 := O4.cell 2 rfl
        have o43 := O4.cell 3 rfl
        have q14 := X4.lt
        have q24 := O4.lt
        clear X3 X4 O3 O4
        go_wp2_with fail
        go_ret
        exact ⟨by first | rfl | (simp <;> omega), bpush (bstep T3 hb4) _⟩

theorem own : ownKnob Try.prog.godebug = none := by kernel_rfl
theorem laidOut : laidOutB Try.prog = true := by kernel_rfl

set_option maxRecDepth 100000 in
theorem lifted (os : Os) (started : os.Started) (H : Type) (enc : TypeId × Value → H) :
    ReturnsInHanded {} Try.checked os 6 .any (Rows.fnRttTowardSpec.pre6 enc Try.prog Try.f6 Rows.fnRttTowardRow.domain false) (Rows.fnRttTowardSpec.post enc Try.prog Try.f6 false true false false) := by
  refine returnsInHanded_of_change (C := Try.checked) own started (by kernel_rfl) Try.func6
    (ChangeSpec.witness6 (enc := enc) (C := Try.checked) false ⟨#[], #[.slice none 0 0], []⟩ 8 (by kernel_rfl) (by kernel_rfl) (by kernel_rfl) (by kernel_rfl)) ?_
  intro W base args ds gs before hval0 hW hcnd _
  have hval : ∀ (j : Nat) t v, Try.f6.params[j]? = some t → args[j]? = some v → Value.okWide Try.prog W .any base t v := hval0
  have hW' := hW
  obtain ⟨p, q, hA0, hV, rfl, hfz, hnd⟩ := hW
  have hA : DataW.TrodAll enc Try.prog W 0 (fun _ => true) true Try.f6.params.toList args.toList ds p := hA0
  rw [Try.params6] at hA hval
  obtain ⟨v0, vs0, d0, ds0, p0, q0, hargs, rfl, rfl, h0, r0⟩ := trodAll_cons hA
  obtain ⟨rfl, rfl, rfl⟩ := trodAll_nil r0
  obtain rfl : args = #[v0] := by cases args; simp_all
  obtain ⟨rfl, rfl⟩ := trodVars_none hV
  have k0 := h0
  have lt0 : ∀ x ∈ p0, x.block < W.heap.size := by obtain ⟨m, hm⟩ := k0; exact DataW.trod_lt m _ _ _ hm
  obtain ⟨a0, len0, cap0, rfl⟩ := okWide_slice Try.underlying22 (hval 0 22 v0 rfl rfl)
  obtain ⟨z0, w0⟩ : ∃ zs, IsRow .u8 W a0 len0 cap0 zs := by
    obtain ⟨fuel, hf⟩ := h0
    rcases open_ints Try.underlying22 Try.underlying5 (by kernel_rfl) hf with ⟨hcs, _⟩ | ⟨x, l, c, zs, hcs, _, hl, hm, hz, _, hcell, hwz⟩
    · simp [Value.cells] at hcs
      obtain ⟨rfl, rfl, rfl⟩ := hcs
      exact ⟨[], .inl ⟨rfl, rfl, rfl, rfl⟩⟩
    · simp [Value.cells] at hcs
      obtain ⟨rfl, rfl, rfl⟩ := hcs
      exact ⟨zs, .inr ⟨_, rfl, hl, hm, by simpa using hz, hcell, hwz⟩⟩
  clear hA0 hval0
  refine (walk a0 len0 cap0 z0 W w0).mono fun e W' ⟨he, bel⟩ => ?_
  subst he
  exact ⟨_, rfl, _, _, _, [], _, [], hW', trodAll_mk1 (shut_bool Try.underlying4 _), (trodAll_cons_mk (Below.trod laidOut (by kernel_rfl) (of_decide_eq_true (by kernel_rfl)) k0 bel lt0) trodAll_mk0), rfl, bel.frame _, fun h => by cases h⟩

theorem over : Rows.fnRttTowardRow.holds Try.pinned (OpenSpec.ofChange Rows.fnRttTowardSpec) :=
  OpenClaim.holds_of_wide 6 Try.f6 rfl rfl rfl rfl rfl rfl rfl ⟨rfl, rfl, rfl, rfl, rfl⟩ rfl rfl rfl rfl rfl (by kernel_rfl) Try.func6 (by kernel_rfl)
    (of_decide_eq_true (by kernel_rfl)) (by unfold Func.isWrapper; first | (rw [if_pos (by decide +kernel)]; kernel_rfl) | (rw [if_neg (by decide +kernel)]; exact ⟨rfl, rfl⟩))
    (fun os started H enc _ => lifted os started H enc)

/-- The given statement. -/
theorem proved : Rows.FnRttTowardSaid := over
end Go.Proofs.Ythaoiaphgmaadaa.fnRttToward
