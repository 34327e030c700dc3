/- A delay never lowers a sample below the smallest one.
   No condition: it holds for every input. -/
import Derived.Test.YthaoiaphgmaadaaRows
import Derived.WalkKit
import Derived.ProofKit
import Derived.OpenShut
import Derived.ShutString
import Derived.ChangeOld
import Derived.Below
import Derived.Lib.SmallJoins
import Derived.Test.YthaoiaphgmaadaaRz
namespace Go.Proofs.Ythaoiaphgmaadaa.fnRttDelay
open Go.ChangeShapes Go.WideShapes Go.ChangeAt Go.RowKit Go.Joins
open Go.ChangeMaps (open_string shut_string)
set_option linter.unusedVariables false

theorem delay_eq {a b c d s e : Int} (hu : upOk a b c d s e = true) (h : a = 0 ∨ s - e < uB b s) :
    upOk a b c d s 0 = true ∧ rA a b c d s 0 = rA a b c d s e ∧ rB a b c d s 0 = rB a b c d s e ∧ rC a b c d s 0 = rC a b c d s e ∧ rD a b c d s 0 = rD a b c d s e := by
  obtain ⟨hv, hs, he⟩ := upOk_t hu
  have h0 : upOk a b c d s 0 = true := upOk_mk hv hs (by omega)
  refine ⟨h0, ?_⟩
  simp only [rA, rB, rC, rD, hu, h0, if_true]
  by_cases ha : a = 0
  · simp [ha]
  · have h' := h.resolve_left ha
    have hb := uB_bd hu ha
    have e1 : uN b s e = s := by unfold uN; exact if_pos h'
    have e2 : uN b s 0 = s := by unfold uN; split <;> omega
    simp [ha, e1, e2]
theorem walk (a0 : Option Addr) (len0 cap0 : Nat) (z0 : List Int) (w : World) (w0 : IsRow .u8 w a0 len0 cap0 z0) :
    Calls Try.prog 3 #[.slice a0 len0 cap0] w fun e w' => e = .returned (.bool true) ∧ Below w.heap.size w w' := by
  by_cases hb : (1048576 : Int) < (len0 : Int)
  · go_enter Try.func3, Try.ntmps3
    go_wp2
    go_ret
    exact ⟨rfl, Below.refl _ _⟩
  have HD := Lib.hid (draw_upd w a0 len0 cap0 z0 w0)
  clear w0
  go_enter Try.func3, Try.ntmps3
  go_wp2_with fail
  refine HD.out.mono ?_
  rintro e1 w1 ⟨a, b, c, d, s, e, rfl, ⟨hs1, hs2⟩, ⟨he1, he2⟩, hb1⟩
  clear HD
  have T1 := bpush hb1 (Obj.cells #[.int .i64 a, .int .i64 b, .int .i64 c, .int .i64 d] 24)
  cases hu : upOk a b c d s e
  · go_wp2_with fail
    refine (upd_impl _ _ _ _ _ _ _).mono ?_
    rintro e1 w2 ⟨rfl, hb2⟩
    have X2 := (Blk.new w1 #[.int .i64 a, .int .i64 b, .int .i64 c, .int .i64 d] 24).below hb2
    have x20 := X2.cell 0 rfl
    have x21 := X2.cell 1 rfl
    have x22 := X2.cell 2 rfl
    have x23 := X2.cell 3 rfl
    have q12 := X2.lt
    go_wp2_with fail
    refine (upd_spec _ _ _ _ _ _ _).mono ?_
    rintro e1 w3 ⟨rfl, hb3⟩
    have X3 := (X2.alloc (Obj.cells #[.int .i64 (rA a b c d s e), .int .i64 (rB a b c d s e), .int .i64 (rC a b c d s e), .int .i64 (rD a b c d s e)] 24)).below hb3
    have x30 := X3.cell 0 rfl
    have x31 := X3.cell 1 rfl
    have x32 := X3.cell 2 rfl
    have x33 := X3.cell 3 rfl
    have q13 := X3.lt
    have O3 := (Blk.new w2 #[.int .i64 (rA a b c d s e), .int .i64 (rB a b c d s e), .int .i64 (rC a b c d s e), .int .i64 (rD a b c d s e)] 24).below hb3
    have o30 := O3.cell 0 rfl
    have o31 := O3.cell 1 rfl
    have o32 := O3.cell 2 rfl
    have o33 := O3.cell 3 rfl
    have q23 := O3.lt
    have T3 := bpush (bstep (bpush (bstep T1 hb2) (Obj.cells #[.int .i64 (rA a b c d s e), .int .i64 (rB a b c d s e), .int .i64 (rC a b c d s e), .int .i64 (rD a b c d s e)] 24)) hb3) (Obj.cells #[.int .i64 (rA a b c d s e), .int .i64 (rB a b c d s e), .int .i64 (rC a b c d s e), .int .i64 (rD a b c d s e)] 24)
    clear hb2 hb3 X2
    clear X3 O3
    go_wp2_with fail
    go_ret
    exact ⟨rfl, T3⟩
  · obtain ⟨hv, hs, he⟩ := upOk_t hu
    have EA : rA a b c d s e = s := by simp [rA, hu]
    obtain ⟨hs3, hs4⟩ := hs
    obtain ⟨he3, he4⟩ := he
    by_cases h : a = 0 ∨ s - e < uB b s
    · obtain ⟨F0, FA, FB, FC, FD⟩ := delay_eq hu h
      rw [EA] at FA
      have hg : s - e < rB a b c d s e ∨ ¬ 0 < a := by
        rcases h with h | h
        · exact .inr (by omega)
        · by_cases ha : a = 0
          · exact .inr (by omega)
          · refine .inl ?_; simp only [rB, hu, if_true, ha, if_false]; exact h
      rcases Classical.em (s - e < rB a b c d s e) with g | g
      · clear h hg
        
        go_wp2_with fail
        refine (upd_impl _ _ _ _ _ _ _).mono ?_
        rintro e1 w2 ⟨rfl, hb2⟩
        have X2 := (Blk.new w1 #[.int .i64 a, .int .i64 b, .int .i64 c, .int .i64 d] 24).below hb2
        have x20 := X2.cell 0 rfl
        have x21 := X2.cell 1 rfl
        have x22 := X2.cell 2 rfl
        have x23 := X2.cell 3 rfl
        have q12 := X2.lt
        go_wp2_with fail
        refine (upd_spec _ _ _ _ _ _ _).mono ?_
        rintro e1 w3 ⟨rfl, hb3⟩
        have X3 := (X2.alloc (Obj.cells #[.int .i64 s, .int .i64 (rB a b c d s e), .int .i64 (rC a b c d s e), .int .i64 (rD a b c d s e)] 24)).below hb3
        have x30 := X3.cell 0 rfl
        have x31 := X3.cell 1 rfl
        have x32 := X3.cell 2 rfl
        have x33 := X3.cell 3 rfl
        have q13 := X3.lt
        have O3 := (Blk.new w2 #[.int .i64 s, .int .i64 (rB a b c d s e), .int .i64 (rC a b c d s e), .int .i64 (rD a b c d s e)] 24).below hb3
        have o30 := O3.cell 0 rfl
        have o31 := O3.cell 1 rfl
        have o32 := O3.cell 2 rfl
        have o33 := O3.cell 3 rfl
        have q23 := O3.lt
        have T3 := bpush (bstep (bpush (bstep T1 hb2) (Obj.cells #[.int .i64 s, .int .i64 (rB a b c d s e), .int .i64 (rC a b c d s e), .int .i64 (rD a b c d s e)] 24)) hb3) (Obj.cells #[.int .i64 s, .int .i64 (rB a b c d s e), .int .i64 (rC a b c d s e), .int .i64 (rD a b c d s e)] 24)
        clear hb2 hb3 X2
        go_wp2_with fail
        refine (upd_impl _ _ _ _ _ _ _).mono ?_
        rintro e1 w4 ⟨rfl, hb4⟩
        have X4 := (X3.alloc _).below hb4
        have x40 := X4.cell 0 rfl
        have x41 := X4.cell 1 rfl
        have x42 := X4.cell 2 rfl
        have x43 := X4.cell 3 rfl
        have O4 := (O3.alloc _).below hb4
        have o40 := O4.cell 0 rfl
        have o41 := O4.cell 1 rfl
        have o42 := O4.cell 2 rfl
        have o43 := O4.cell 3 rfl
        have q14 := X4.lt
        have q24 := O4.lt
        clear X3 X4 O3 O4
        go_wp2_with fail
        go_ret
        exact ⟨rfl, bpush (bstep T3 hb4) _⟩
      · have g' := hg.resolve_left g
        clear h hg
        
        go_wp2_with fail
        refine (upd_impl _ _ _ _ _ _ _).mono ?_
        rintro e1 w2 ⟨rfl, hb2⟩
        have X2 := (Blk.new w1 #[.int .i64 a, .int .i64 b, .int .i64 c, .int .i64 d] 24).below hb2
        have x20 := X2.cell 0 rfl
        have x21 := X2.cell 1 rfl
        have x22 := X2.cell 2 rfl
        have x23 := X2.cell 3 rfl
        have q12 := X2.lt
        go_wp2_with fail
        refine (upd_spec _ _ _ _ _ _ _).mono ?_
        rintro e1 w3 ⟨rfl, hb3⟩
        have X3 := (X2.alloc (Obj.cells #[.int .i64 s, .int .i64 (rB a b c d s e), .int .i64 (rC a b c d s e), .int .i64 (rD a b c d s e)] 24)).below hb3
        have x30 := X3.cell 0 rfl
        have x31 := X3.cell 1 rfl
        have x32 := X3.cell 2 rfl
        have x33 := X3.cell 3 rfl
        have q13 := X3.lt
        have O3 := (Blk.new w2 #[.int .i64 s, .int .i64 (rB a b c d s e), .int .i64 (rC a b c d s e), .int .i64 (rD a b c d s e)] 24).below hb3
        have o30 := O3.cell 0 rfl
        have o31 := O3.cell 1 rfl
        have o32 := O3.cell 2 rfl
        have o33 := O3.cell 3 rfl
        have q23 := O3.lt
        have T3 := bpush (bstep (bpush (bstep T1 hb2) (Obj.cells #[.int .i64 s, .int .i64 (rB a b c d s e), .int .i64 (rC a b c d s e), .int .i64 (rD a b c d s e)] 24)) hb3) (Obj.cells #[.int .i64 s, .int .i64 (rB a b c d s e), .int .i64 (rC a b c d s e), .int .i64 (rD a b c d s e)] 24)
        clear hb2 hb3 X2
        go_wp2_with fail
        refine (upd_impl _ _ _ _ _ _ _).mono ?_
        rintro e1 w4 ⟨rfl, hb4⟩
        have X4 := (X3.alloc _).below hb4
        have x40 := X4.cell 0 rfl
        have x41 := X4.cell 1 rfl
        have x42 := X4.cell 2 rfl
        have x43 := X4.cell 3 rfl
        have O4 := (O3.alloc _).below hb4
        have o40 := O4.cell 0 rfl
        have o41 := O4.cell 1 rfl
        have o42 := O4.cell 2 rfl
        have o43 := O4.cell 3 rfl
        have q14 := X4.lt
        have q24 := O4.lt
        clear X3 X4 O3 O4
        go_wp2_with fail
        go_ret
        exact ⟨rfl, bpush (bstep T3 hb4) _⟩
    · have ha : a ≠ 0 := fun h' => h (.inl h')
      have h2 : rB a b c d s e ≤ s - e := by
        simp only [rB, hu, if_true, ha, if_false]
        have : ¬ s - e < uB b s := fun h' => h (.inr h')
        omega
      have ha' : 0 < a := by have := (rttOk_t hv ha).1; omega
      have F0 : upOk a b c d s 0 = true := upOk_mk hv ⟨hs3, hs4⟩ (by omega)
      clear h ha
      
      go_wp2_with fail
      refine (upd_impl _ _ _ _ _ _ _).mono ?_
      rintro e1 w2 ⟨rfl, hb2⟩
      have X2 := (Blk.new w1 #[.int .i64 a, .int .i64 b, .int .i64 c, .int .i64 d] 24).below hb2
      have x20 := X2.cell 0 rfl
      have x21 := X2.cell 1 rfl
      have x22 := X2.cell 2 rfl
      have x23 := X2.cell 3 rfl
      have q12 := X2.lt
      go_wp2_with fail
      refine (upd_spec _ _ _ _ _ _ _).mono ?_
      rintro e1 w3 ⟨rfl, hb3⟩
      have X3 := (X2.alloc (Obj.cells #[.int .i64 s, .int .i64 (rB a b c d s e), .int .i64 (rC a b c d s e), .int .i64 (rD a b c d s e)] 24)).below hb3
      have x30 := X3.cell 0 rfl
      have x31 := X3.cell 1 rfl
      have x32 := X3.cell 2 rfl
      have x33 := X3.cell 3 rfl
      have q13 := X3.lt
      have O3 := (Blk.new w2 #[.int .i64 s, .int .i64 (rB a b c d s e), .int .i64 (rC a b c d s e), .int .i64 (rD a b c d s e)] 24).below hb3
      have o30 := O3.cell 0 rfl
      have o31 := O3.cell 1 rfl
      have o32 := O3.cell 2 rfl
      have o33 := O3.cell 3 rfl
      have q23 := O3.lt
      have T3 := bpush (bstep (bpush (bstep T1 hb2) (Obj.cells #[.int .i64 s, .int .i64 (rB a b c d s e), .int .i64 (rC a b c d s e), .int .i64 (rD a b c d s e)] 24)) hb3) (Obj.cells #[.int .i64 s, .int .i64 (rB a b c d s e), .int .i64 (rC a b c d s e), .int .i64 (rD a b c d s e)] 24)
      clear hb2 hb3 X2
      go_wp2_with fail
      refine (upd_impl _ _ _ _ _ _ _).mono ?_
      rintro e1 w4 ⟨rfl, hb4⟩
      have X4 := (X3.alloc _).below hb4
      have x40 := X4.cell 0 rfl
      have x41 := X4.cell 1 rfl
      have x42 := X4.cell 2 rfl
      have x43 := X4.cell 3 rfl
      have O4 := (O3.alloc _).below hb4
      have o40 := O4.cell 0 rfl
      have o41 := O4.cell 1 rfl
      have o42 := O4.cell 2 rfl
      have o43 := O4.cell 3 rfl
      have q14 := X4.lt
      have q24 := O4.lt
      clear X3 X4 O3 O4
      go_wp2_with fail
      go_ret
      exact ⟨rfl, bpush (bstep T3 hb4) _⟩

theorem own : ownKnob Try.prog.godebug = none := by kernel_rfl
theorem laidOut : laidOutB Try.prog = true := by kernel_rfl

set_option maxRecDepth 100000 in
theorem lifted (os : Os) (started : os.Started) (H : Type) (enc : TypeId × Value → H) :
    ReturnsInHanded {} Try.checked os 3 .any (Rows.fnRttDelaySpec.pre6 enc Try.prog Try.f3 Rows.fnRttDelayRow.domain false) (Rows.fnRttDelaySpec.post enc Try.prog Try.f3 false true false false) := by
  refine returnsInHanded_of_change (C := Try.checked) own started (by kernel_rfl) Try.func3
    (ChangeSpec.witness6 (enc := enc) (C := Try.checked) false ⟨#[], #[.slice none 0 0], []⟩ 8 (by kernel_rfl) (by kernel_rfl) (by kernel_rfl) (by kernel_rfl)) ?_
  intro W base args ds gs before hval0 hW hcnd _
  have hval : ∀ (j : Nat) t v, Try.f3.params[j]? = some t → args[j]? = some v → Value.okWide Try.prog W .any base t v := hval0
  have hW' := hW
  obtain ⟨p, q, hA0, hV, rfl, hfz, hnd⟩ := hW
  have hA : DataW.TrodAll enc Try.prog W 0 (fun _ => true) true Try.f3.params.toList args.toList ds p := hA0
  rw [Try.params3] at hA hval
  obtain ⟨v0, vs0, d0, ds0, p0, q0, hargs, rfl, rfl, h0, r0⟩ := trodAll_cons hA
  obtain ⟨rfl, rfl, rfl⟩ := trodAll_nil r0
  obtain rfl : args = #[v0] := by cases args; simp_all
  obtain ⟨rfl, rfl⟩ := trodVars_none hV
  have k0 := h0
  have lt0 : ∀ x ∈ p0, x.block < W.heap.size := by obtain ⟨m, hm⟩ := k0; exact DataW.trod_lt m _ _ _ hm
  obtain ⟨a0, len0, cap0, rfl⟩ := okWide_slice Try.underlying22 (hval 0 22 v0 rfl rfl)
  obtain ⟨z0, w0⟩ : ∃ zs, IsRow .u8 W a0 len0 cap0 zs := by
    obtain ⟨fuel, hf⟩ := h0
    rcases open_ints Try.underlying22 Try.underlying5 (by kernel_rfl) hf with ⟨hcs, _⟩ | ⟨x, l, c, zs, hcs, _, hl, hm, hz, _, hcell, hwz⟩
    · simp [Value.cells] at hcs
      obtain ⟨rfl, rfl, rfl⟩ := hcs
      exact ⟨[], .inl ⟨rfl, rfl, rfl, rfl⟩⟩
    · simp [Value.cells] at hcs
      obtain ⟨rfl, rfl, rfl⟩ := hcs
      exact ⟨zs, .inr ⟨_, rfl, hl, hm, by simpa using hz, hcell, hwz⟩⟩
  clear hA0 hval0
  refine (walk a0 len0 cap0 z0 W w0).mono fun e W' ⟨he, bel⟩ => ?_
  subst he
  exact ⟨_, rfl, _, _, _, [], _, [], hW', trodAll_mk1 (shut_bool Try.underlying4 _), (trodAll_cons_mk (Below.trod laidOut (by kernel_rfl) (of_decide_eq_true (by kernel_rfl)) k0 bel lt0) trodAll_mk0), rfl, bel.frame _, fun h => by cases h⟩

theorem over : Rows.fnRttDelayRow.holds Try.pinned (OpenSpec.ofChange Rows.fnRttDelaySpec) :=
  OpenClaim.holds_of_wide 3 Try.f3 rfl rfl rfl rfl rfl rfl rfl ⟨rfl, rfl, rfl, rfl, rfl⟩ rfl rfl rfl rfl rfl (by kernel_rfl) Try.func3 (by kernel_rfl)
    (of_decide_eq_true (by kernel_rfl)) (by unfold Func.isWrapper; first | (rw [if_pos (by decide +kernel)]; kernel_rfl) | (rw [if_neg (by decide +kernel)]; exact ⟨rfl, rfl⟩))
    (fun os started H enc _ => lifted os started H enc)

/-- The given statement. -/
theorem proved : Rows.FnRttDelaySaid := over
end Go.Proofs.Ythaoiaphgmaadaa.fnRttDelay
