/- Every accepted token could have been issued.
   No condition: it holds for every input. -/
import Derived.Test.YtompmehlbbddhaaRows
import Derived.WalkKit
import Derived.ProofKit
import Derived.OpenShut
import Derived.ShutString
import Derived.ChangeOld
import Derived.Below
import Derived.Lib.SmallJoins
import Derived.Test.YtompmehlbbddhaaTb
import Derived.Test.YtompmehlbbddhaaDt
namespace Go.Proofs.Ytompmehlbbddhaa.fnTokenGenuine
open Go.ChangeShapes Go.WideShapes Go.ChangeAt Go.RowKit Go.Joins
open Go.ChangeMaps (open_string shut_string)
set_option linter.unusedVariables false

theorem acc_of (s x y z d now : Int) (h : accF s x y z d now = true) : tokOk s d y = true ∧ x = d ∧ y ≤ now ∧ now ≤ y + 20 ∧ z = tagF s d y ∧ 0 ≤ y ∧ now ≤ 999 := by
  simp [accF] at h
  obtain ⟨⟨⟨⟨h1, h2⟩, h3⟩, h4⟩, h5⟩ := h
  obtain ⟨k1, k2, k3, k4⟩ := tokOk_t h1
  simp [inB] at h3
  exact ⟨tokOk_mk ⟨k1, k2, by omega, by omega⟩, h2, h3.2, h4, h5, h3.1, k4⟩
theorem walk (a0 : Option Addr) (len0 cap0 : Nat) (z0 : List Int) (w : World) (w0 : IsRow .u8 w a0 len0 cap0 z0) :
    Calls Try.prog 9 #[.slice a0 len0 cap0] w fun e w' => e = .returned (.bool true) ∧ Below w.heap.size w w' := by
  by_cases hb : (1048576 : Int) < (len0 : Int)
  · go_enter Try.func9, Try.ntmps9
    go_wp2
    go_ret
    exact ⟨rfl, Below.refl _ _⟩
  have HD := Lib.hid (draw_accept w a0 len0 cap0 z0 w0)
  clear w0
  go_enter Try.func9, Try.ntmps9
  go_wp2_with fail
  refine HD.out.mono ?_
  rintro e w1 ⟨s, x, y, z, d, now, rfl, hb1⟩
  clear HD
  have T1 := bpush hb1 (Obj.cells #[.int .i64 x, .int .i64 y, .int .i64 z] 25)
  cases b : accF s x y z d now
  · go_wp2_with fail
    refine (acc_impl _ _ _ _ _ _ _).mono ?_
    rintro e w2 ⟨rfl, hb2⟩
    have B8 := (Blk.new w1 #[.int .i64 x, .int .i64 y, .int .i64 z] 25).below hb2
    have c80 := B8.cell 0 rfl
    have c81 := B8.cell 1 rfl
    have c82 := B8.cell 2 rfl
    go_wp2_with fail
    refine (acc_spec _ _ _ _ _ _ _).mono ?_
    rintro e w3 ⟨rfl, hb3⟩
    go_wp2_with fail
    go_ret
    exact ⟨rfl, bstep (bstep T1 hb2) hb3⟩
  · obtain ⟨k1, rfl, k3, k4, k5, k6, k7⟩ := acc_of _ _ _ _ _ _ b
    have e1 : mkA s x y = x := by simp [mkA, k1]
    have e2 : mkT s x y = y := by simp [mkT, k1]
    have e3 : mkG s x y = z := by simp [mkG, k1, k5]
    clear k5
    go_wp2_with fail
    refine (acc_impl _ _ _ _ _ _ _).mono ?_
    rintro e w2 ⟨rfl, hb2⟩
    have B8 := (Blk.new w1 #[.int .i64 x, .int .i64 y, .int .i64 z] 25).below hb2
    have c80 := B8.cell 0 rfl
    have c81 := B8.cell 1 rfl
    have c82 := B8.cell 2 rfl
    go_wp2_with fail
    refine (acc_spec _ _ _ _ _ _ _).mono ?_
    rintro e w3 ⟨rfl, hb3⟩
    have B8 := B8.below hb3
    have d80 := B8.cell 0 rfl
    have d81 := B8.cell 1 rfl
    have d82 := B8.cell 2 rfl
    go_wp2_with fail
    refine (make_impl _ _ _ _).mono ?_
    rintro e w4 ⟨rfl, hb4⟩
    have B8 := B8.below hb4
    have q8 := B8.lt
    have e80 := B8.cell 0 rfl
    have e81 := B8.cell 1 rfl
    have e82 := B8.cell 2 rfl
    have hB := Lib.hid (bpush (bstep (bstep (bstep T1 hb2) hb3) hb4) (Obj.cells #[.int .i64 x, .int .i64 y, .int .i64 z] 25))
    clear B8
    go_wp2_with fail
    go_ret
    exact ⟨rfl, hB.out⟩

theorem own : ownKnob Try.prog.godebug = none := by kernel_rfl
theorem laidOut : laidOutB Try.prog = true := by kernel_rfl

set_option maxRecDepth 100000 in
theorem lifted (os : Os) (started : os.Started) (H : Type) (enc : TypeId × Value → H) :
    ReturnsInHanded {} Try.checked os 9 .any (Rows.fnTokenGenuineSpec.pre6 enc Try.prog Try.f9 Rows.fnTokenGenuineRow.domain false) (Rows.fnTokenGenuineSpec.post enc Try.prog Try.f9 false true false false) := by
  refine returnsInHanded_of_change (C := Try.checked) own started (by kernel_rfl) Try.func9
    (ChangeSpec.witness6 (enc := enc) (C := Try.checked) false ⟨#[], #[.slice none 0 0], []⟩ 8 (by kernel_rfl) (by kernel_rfl) (by kernel_rfl) (by kernel_rfl)) ?_
  intro W base args ds gs before hval0 hW hcnd _
  have hval : ∀ (j : Nat) t v, Try.f9.params[j]? = some t → args[j]? = some v → Value.okWide Try.prog W .any base t v := hval0
  have hW' := hW
  obtain ⟨p, q, hA0, hV, rfl, hfz, hnd⟩ := hW
  have hA : DataW.TrodAll enc Try.prog W 0 (fun _ => true) true Try.f9.params.toList args.toList ds p := hA0
  rw [Try.params9] at hA hval
  obtain ⟨v0, vs0, d0, ds0, p0, q0, hargs, rfl, rfl, h0, r0⟩ := trodAll_cons hA
  obtain ⟨rfl, rfl, rfl⟩ := trodAll_nil r0
  obtain rfl : args = #[v0] := by cases args; simp_all
  obtain ⟨rfl, rfl⟩ := trodVars_none hV
  have k0 := h0
  have lt0 : ∀ x ∈ p0, x.block < W.heap.size := by obtain ⟨m, hm⟩ := k0; exact DataW.trod_lt m _ _ _ hm
  obtain ⟨a0, len0, cap0, rfl⟩ := okWide_slice Try.underlying32 (hval 0 32 v0 rfl rfl)
  obtain ⟨z0, w0⟩ : ∃ zs, IsRow .u8 W a0 len0 cap0 zs := by
    obtain ⟨fuel, hf⟩ := h0
    rcases open_ints Try.underlying32 Try.underlying5 (by kernel_rfl) hf with ⟨hcs, _⟩ | ⟨x, l, c, zs, hcs, _, hl, hm, hz, _, hcell, hwz⟩
    · simp [Value.cells] at hcs
      obtain ⟨rfl, rfl, rfl⟩ := hcs
      exact ⟨[], .inl ⟨rfl, rfl, rfl, rfl⟩⟩
    · simp [Value.cells] at hcs
      obtain ⟨rfl, rfl, rfl⟩ := hcs
      exact ⟨zs, .inr ⟨_, rfl, hl, hm, by simpa using hz, hcell, hwz⟩⟩
  clear hA0 hval0
  refine (walk a0 len0 cap0 z0 W w0).mono fun e W' ⟨he, bel⟩ => ?_
  subst he
  exact ⟨_, rfl, _, _, _, [], _, [], hW', trodAll_mk1 (shut_bool Try.underlying4 _), (trodAll_cons_mk (Below.trod laidOut (by kernel_rfl) (of_decide_eq_true (by kernel_rfl)) k0 bel lt0) trodAll_mk0), rfl, bel.frame _, fun h => by cases h⟩

theorem over : Rows.fnTokenGenuineRow.holds Try.pinned (OpenSpec.ofChange Rows.fnTokenGenuineSpec) :=
  OpenClaim.holds_of_wide 9 Try.f9 rfl rfl rfl rfl rfl rfl rfl ⟨rfl, rfl, rfl, rfl, rfl⟩ rfl rfl rfl rfl rfl (by kernel_rfl) Try.func9 (by kernel_rfl)
    (of_decide_eq_true (by kernel_rfl)) (by unfold Func.isWrapper; first | (rw [if_pos (by decide +kernel)]; kernel_rfl) | (rw [if_neg (by decide +kernel)]; exact ⟨rfl, rfl⟩))
    (fun os started H enc _ => lifted os started H enc)

/-- The given statement. -/
theorem proved : Rows.FnTokenGenuineSaid := over
end Go.Proofs.Ytompmehlbbddhaa.fnTokenGenuine
