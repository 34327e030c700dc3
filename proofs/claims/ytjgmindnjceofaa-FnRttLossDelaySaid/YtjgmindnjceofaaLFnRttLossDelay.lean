/- The loss delay exceeds the latest sample.
   No condition: it holds for every input. -/
import Derived.Test.YtjgmindnjceofaaRows
import Derived.WalkKit
import Derived.ProofKit
import Derived.OpenShut
import Derived.ShutString
import Derived.ChangeOld
import Derived.Below
import Derived.Lib.SmallJoins
import Derived.Test.YtjgmindnjceofaaRl
import Derived.Test.YtjgmindnjceofaaRy
namespace Go.Proofs.Ytjgmindnjceofaa.fnRttLossDelay
open Go.ChangeShapes Go.WideShapes Go.ChangeAt Go.RowKit Go.Joins
open Go.ChangeMaps (open_string shut_string)
set_option linter.unusedVariables false

theorem walk (a0 : Option Addr) (len0 cap0 : Nat) (z0 : List Int) (w : World) (w0 : IsRow .u8 w a0 len0 cap0 z0) :
    Calls Try.prog 7 #[.slice a0 len0 cap0] w fun e w' => e = .returned (.bool true) ∧ Below w.heap.size w w' := by
  by_cases hb : (1048576 : Int) < (len0 : Int)
  · go_enter Try.func7, Try.ntmps7
    go_wp2
    go_ret
    exact ⟨rfl, Below.refl _ _⟩
  have HD := Lib.hid (draw_lossd w a0 len0 cap0 z0 w0)
  clear w0
  go_enter Try.func7, Try.ntmps7
  go_wp2_with fail
  refine HD.out.mono ?_
  rintro e w1 ⟨a, b, c, d, rfl, hb1⟩
  clear HD
  have B1 := Blk.new w1 #[.int .i64 a, .int .i64 b, .int .i64 c, .int .i64 d] 25
  have T1 := bpush hb1 (Obj.cells #[.int .i64 a, .int .i64 b, .int .i64 c, .int .i64 d] 25)
  cases hv : rttOk a b c d
  · have E : lossF a b c d = 0 := by simp [lossF, hv]
    go_wp2_with fail
    refine (loss_impl _ _ _ _ _).mono ?_
    rintro e w2 ⟨rfl, hb2⟩
    have B2 := B1.below hb2
    have q2 := B2.lt
    have c20 := B2.cell 0 rfl
    have c21 := B2.cell 1 rfl
    have c22 := B2.cell 2 rfl
    have c23 := B2.cell 3 rfl
    go_wp2_with fail
    refine (loss_spec _ _ _ _ _).mono ?_
    rintro e w3 ⟨rfl, hb3⟩
    have B3 := B2.below hb3
    have q3 := B3.lt
    have c30 := B3.cell 0 rfl
    have c31 := B3.cell 1 rfl
    have c32 := B3.cell 2 rfl
    have c33 := B3.cell 3 rfl
    go_wp2_with fail
    go_ret
    exact ⟨rfl, bstep (bstep T1 hb2) hb3⟩
  · by_cases ha : a = 0
    · subst ha
      obtain ⟨rfl, rfl, rfl⟩ := rttOk_a hv rfl
      have E : lossF 0 0 0 0 = 112 := by simp [lossF, hv, lossN]
      go_wp2_with fail
      refine (loss_impl _ _ _ _ _).mono ?_
      rintro e w2 ⟨rfl, hb2⟩
      have B2 := B1.below hb2
      have q2 := B2.lt
      have c20 := B2.cell 0 rfl
      have c21 := B2.cell 1 rfl
      have c22 := B2.cell 2 rfl
      have c23 := B2.cell 3 rfl
      go_wp2_with fail
      refine (loss_spec _ _ _ _ _).mono ?_
      rintro e w3 ⟨rfl, hb3⟩
      have B3 := B2.below hb3
      have q3 := B3.lt
      have c30 := B3.cell 0 rfl
      have c31 := B3.cell 1 rfl
      have c32 := B3.cell 2 rfl
      have c33 := B3.cell 3 rfl
      go_wp2_with fail
      go_ret
      exact ⟨rfl, bstep (bstep T1 hb2) hb3⟩
    · obtain ⟨⟨h1, h2⟩, ⟨h3, h4⟩, ⟨h5, h6⟩, h7, h8⟩ := rttOk_t hv ha
      have ha' : (a == 0) = false := by simp [ha]
      by_cases hm : a < c / 8
      · have E : lossF a b c d = c / 8 + c / 8 / 8 := by have : ¬ c / 8 < a := by omega
                                                         simp [lossF, hv, lossN, ha, this]
        have E0 : (c / 8 + c / 8 / 8 == 0) = false := by simp; omega
        have E9 : 8 * (c / 8 + c / 8 / 8) ≤ 9 * (c / 8) := by omega
        clear ha
        go_wp2_with fail
        refine (loss_impl _ _ _ _ _).mono ?_
        rintro e w2 ⟨rfl, hb2⟩
        have B2 := B1.below hb2
        have q2 := B2.lt
        have c20 := B2.cell 0 rfl
        have c21 := B2.cell 1 rfl
        have c22 := B2.cell 2 rfl
        have c23 := B2.cell 3 rfl
        go_wp2_with fail
        refine (loss_spec _ _ _ _ _).mono ?_
        rintro e w3 ⟨rfl, hb3⟩
        have B3 := B2.below hb3
        have q3 := B3.lt
        have c30 := B3.cell 0 rfl
        have c31 := B3.cell 1 rfl
        have c32 := B3.cell 2 rfl
        have c33 := B3.cell 3 rfl
        go_wp2_with fail
        go_ret
        exact ⟨rfl, bstep (bstep T1 hb2) hb3⟩
      · have E : lossF a b c d = a + a / 8 := by
          by_cases h : c / 8 < a
          · simp [lossF, hv, lossN, ha, h]
          · have : a = c / 8 := by omega
            simp [lossF, hv, lossN, ha, h]; omega
        have E0 : (a + a / 8 == 0) = false := by simp; omega
        have E9 : 8 * (a + a / 8) ≤ 9 * a := by omega
        clear ha
        go_wp2_with fail
        refine (loss_impl _ _ _ _ _).mono ?_
        rintro e w2 ⟨rfl, hb2⟩
        have B2 := B1.below hb2
        have q2 := B2.lt
        have c20 := B2.cell 0 rfl
        have c21 := B2.cell 1 rfl
        have c22 := B2.cell 2 rfl
        have c23 := B2.cell 3 rfl
        go_wp2_with fail
        refine (loss_spec _ _ _ _ _).mono ?_
        rintro e w3 ⟨rfl, hb3⟩
        have B3 := B2.below hb3
        have q3 := B3.lt
        have c30 := B3.cell 0 rfl
        have c31 := B3.cell 1 rfl
        have c32 := B3.cell 2 rfl
        have c33 := B3.cell 3 rfl
        go_wp2_with fail
        go_ret
        exact ⟨rfl, bstep (bstep T1 hb2) hb3⟩

theorem own : ownKnob Try.prog.godebug = none := by kernel_rfl
theorem laidOut : laidOutB Try.prog = true := by kernel_rfl

set_option maxRecDepth 100000 in
theorem lifted (os : Os) (started : os.Started) (H : Type) (enc : TypeId × Value → H) :
    ReturnsInHanded {} Try.checked os 7 .any (Rows.fnRttLossDelaySpec.pre6 enc Try.prog Try.f7 Rows.fnRttLossDelayRow.domain false) (Rows.fnRttLossDelaySpec.post enc Try.prog Try.f7 false true false false) := by
  refine returnsInHanded_of_change (C := Try.checked) own started (by kernel_rfl) Try.func7
    (ChangeSpec.witness6 (enc := enc) (C := Try.checked) false ⟨#[], #[.slice none 0 0], []⟩ 8 (by kernel_rfl) (by kernel_rfl) (by kernel_rfl) (by kernel_rfl)) ?_
  intro W base args ds gs before hval0 hW hcnd _
  have hval : ∀ (j : Nat) t v, Try.f7.params[j]? = some t → args[j]? = some v → Value.okWide Try.prog W .any base t v := hval0
  have hW' := hW
  obtain ⟨p, q, hA0, hV, rfl, hfz, hnd⟩ := hW
  have hA : DataW.TrodAll enc Try.prog W 0 (fun _ => true) true Try.f7.params.toList args.toList ds p := hA0
  rw [Try.params7] at hA hval
  obtain ⟨v0, vs0, d0, ds0, p0, q0, hargs, rfl, rfl, h0, r0⟩ := trodAll_cons hA
  obtain ⟨rfl, rfl, rfl⟩ := trodAll_nil r0
  obtain rfl : args = #[v0] := by cases args; simp_all
  obtain ⟨rfl, rfl⟩ := trodVars_none hV
  have k0 := h0
  have lt0 : ∀ x ∈ p0, x.block < W.heap.size := by obtain ⟨m, hm⟩ := k0; exact DataW.trod_lt m _ _ _ hm
  obtain ⟨a0, len0, cap0, rfl⟩ := okWide_slice Try.underlying35 (hval 0 35 v0 rfl rfl)
  obtain ⟨z0, w0⟩ : ∃ zs, IsRow .u8 W a0 len0 cap0 zs := by
    obtain ⟨fuel, hf⟩ := h0
    rcases open_ints Try.underlying35 Try.underlying5 (by kernel_rfl) hf with ⟨hcs, _⟩ | ⟨x, l, c, zs, hcs, _, hl, hm, hz, _, hcell, hwz⟩
    · simp [Value.cells] at hcs
      obtain ⟨rfl, rfl, rfl⟩ := hcs
      exact ⟨[], .inl ⟨rfl, rfl, rfl, rfl⟩⟩
    · simp [Value.cells] at hcs
      obtain ⟨rfl, rfl, rfl⟩ := hcs
      exact ⟨zs, .inr ⟨_, rfl, hl, hm, by simpa using hz, hcell, hwz⟩⟩
  clear hA0 hval0
  refine (walk a0 len0 cap0 z0 W w0).mono fun e W' ⟨he, bel⟩ => ?_
  subst he
  exact ⟨_, rfl, _, _, _, [], _, [], hW', trodAll_mk1 (shut_bool Try.underlying4 _), (trodAll_cons_mk (Below.trod laidOut (by kernel_rfl) (of_decide_eq_true (by kernel_rfl)) k0 bel lt0) trodAll_mk0), rfl, bel.frame _, fun h => by cases h⟩

theorem over : Rows.fnRttLossDelayRow.holds Try.pinned (OpenSpec.ofChange Rows.fnRttLossDelaySpec) :=
  OpenClaim.holds_of_wide 7 Try.f7 rfl rfl rfl rfl rfl rfl rfl ⟨rfl, rfl, rfl, rfl, rfl⟩ rfl rfl rfl rfl rfl (by kernel_rfl) Try.func7 (by kernel_rfl)
    (of_decide_eq_true (by kernel_rfl)) (by unfold Func.isWrapper; first | (rw [if_pos (by decide +kernel)]; kernel_rfl) | (rw [if_neg (by decide +kernel)]; exact ⟨rfl, rfl⟩))
    (fun os started H enc _ => lifted os started H enc)

/-- The given statement. -/
theorem proved : Rows.FnRttLossDelaySaid := over
end Go.Proofs.Ytjgmindnjceofaa.fnRttLossDelay
