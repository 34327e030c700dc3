/- The program's RttLossDelay returns what the reference's returns, for all arguments.
   No condition: it holds for every input. -/
import Derived.Test.YtjgmindnjceofaaRows
import Derived.WalkKit
import Derived.ProofKit
import Derived.OpenShut
import Derived.ShutString
import Derived.ChangeOld
import Derived.Below
import Derived.Lib.SmallJoins
import Derived.Test.YtjgmindnjceofaaRl
import Derived.Test.YtjgmindnjceofaaRe
namespace Go.Proofs.Ytjgmindnjceofaa.fnExactRttLossDelay
open Go.ChangeShapes Go.WideShapes Go.ChangeAt Go.RowKit Go.Joins
open Go.ChangeMaps (open_string shut_string)
set_option linter.unusedVariables false

theorem walk (x y z v : Int) (w : World) :
    Calls Try.prog 4 #[.agg #[.int .i64 x, .int .i64 y, .int .i64 z, .int .i64 v]] w fun e w' => e = .returned (.bool true) ∧ Below w.heap.size w w' := by
  go_enter Try.func4, Try.ntmps4
  go_wp2_with fail
  refine (toRtt_c _ _ _ _ _).mono ?_
  rintro e w1 ⟨rfl, hb1⟩
  have B8 := (Blk.new w #[.int .i64 x, .int .i64 y, .int .i64 z, .int .i64 v] 23).below hb1
  have c80 := B8.cell 0 rfl
  have c81 := B8.cell 1 rfl
  have c82 := B8.cell 2 rfl
  have c83 := B8.cell 3 rfl
  go_wp2_with fail
  refine (loss_spec _ _ _ _ _).mono ?_
  rintro e w2 ⟨rfl, hb2⟩
  have B8 := B8.below hb2
  have d80 := B8.cell 0 rfl
  have d81 := B8.cell 1 rfl
  have d82 := B8.cell 2 rfl
  have d83 := B8.cell 3 rfl
  go_wp2_with fail
  refine (toRtt_c _ _ _ _ _).mono ?_
  rintro e w3 ⟨rfl, hb3⟩
  go_wp2_with fail
  refine (loss_impl _ _ _ _ _).mono ?_
  rintro e w4 ⟨rfl, hb4⟩
  go_wp2_with fail
  go_ret
  exact ⟨rfl, bstep (bstep (bstep (bstep (bpush (Below.refl _ _) _) hb1) hb2) hb3) hb4⟩

theorem own : ownKnob Try.prog.godebug = none := by kernel_rfl
theorem laidOut : laidOutB Try.prog = true := by kernel_rfl

set_option maxRecDepth 100000 in
theorem lifted (os : Os) (started : os.Started) (H : Type) (enc : TypeId × Value → H) :
    ReturnsInHanded {} Try.checked os 4 .any (Rows.fnExactRttLossDelaySpec.pre6 enc Try.prog Try.f4 Rows.fnExactRttLossDelayRow.domain false) (Rows.fnExactRttLossDelaySpec.post enc Try.prog Try.f4 false true false false) := by
  refine returnsInHanded_of_change (C := Try.checked) own started (by kernel_rfl) Try.func4
    (ChangeSpec.witness6 (enc := enc) (C := Try.checked) false ⟨#[], #[.agg #[.int .i64 0, .int .i64 0, .int .i64 0, .int .i64 0]], []⟩ 8 (by kernel_rfl) (by kernel_rfl) (by kernel_rfl) (by kernel_rfl)) ?_
  intro W base args ds gs before hval0 hW hcnd _
  have hval : ∀ (j : Nat) t v, Try.f4.params[j]? = some t → args[j]? = some v → Value.okWide Try.prog W .any base t v := hval0
  have hW' := hW
  obtain ⟨p, q, hA0, hV, rfl, hfz, hnd⟩ := hW
  have hA : DataW.TrodAll enc Try.prog W 0 (fun _ => true) true Try.f4.params.toList args.toList ds p := hA0
  rw [Try.params4] at hA hval
  obtain ⟨v0, vs0, d0, ds0, p0, q0, hargs, rfl, rfl, h0, r0⟩ := trodAll_cons hA
  obtain ⟨rfl, rfl, rfl⟩ := trodAll_nil r0
  obtain rfl : args = #[v0] := by cases args; simp_all
  obtain ⟨rfl, rfl⟩ := trodVars_none hV
  have k0 := h0
  have lt0 : ∀ x ∈ p0, x.block < W.heap.size := by obtain ⟨m, hm⟩ := k0; exact DataW.trod_lt m _ _ _ hm
  obtain ⟨c0a, c0b, c0c, c0d, y0a, y0b, y0c, y0d, m0, rfl, rfl, hp0, hy0a, hy0b, hy0c, hy0d⟩ := open_agg4 Try.underlying23 (by kernel_rfl) (by kernel_rfl) (hval 0 23 v0 rfl rfl) h0
  obtain ⟨x0a, e0a, f0a, w0a⟩ := DataW.trod_int Try.underlying3 hy0a
  simp at e0a f0a
  subst e0a
  obtain ⟨x0b, e0b, f0b, w0b⟩ := DataW.trod_int Try.underlying3 hy0b
  simp at e0b f0b
  subst e0b
  obtain ⟨x0c, e0c, f0c, w0c⟩ := DataW.trod_int Try.underlying3 hy0c
  simp at e0c f0c
  subst e0c
  obtain ⟨x0d, e0d, f0d, w0d⟩ := DataW.trod_int Try.underlying3 hy0d
  simp at e0d f0d
  subst e0d
  clear hA0 hval0
  refine (walk x0a x0b x0c x0d W ).mono fun e W' ⟨he, bel⟩ => ?_
  subst he
  exact ⟨_, rfl, _, _, _, [], _, [], hW', trodAll_mk1 (shut_bool Try.underlying4 _), (trodAll_cons_mk (Below.trod laidOut (by kernel_rfl) (of_decide_eq_true (by kernel_rfl)) k0 bel lt0) trodAll_mk0), rfl, bel.frame _, fun h => by cases h⟩

theorem over : Rows.fnExactRttLossDelayRow.holds Try.pinned (OpenSpec.ofChange Rows.fnExactRttLossDelaySpec) :=
  OpenClaim.holds_of_wide 4 Try.f4 rfl rfl rfl rfl rfl rfl rfl ⟨rfl, rfl, rfl, rfl, rfl⟩ rfl rfl rfl rfl rfl (by kernel_rfl) Try.func4 (by kernel_rfl)
    (of_decide_eq_true (by kernel_rfl)) (by unfold Func.isWrapper; first | (rw [if_pos (by decide +kernel)]; kernel_rfl) | (rw [if_neg (by decide +kernel)]; exact ⟨rfl, rfl⟩))
    (fun os started H enc _ => lifted os started H enc)

/-- The given statement. -/
theorem proved : Rows.FnExactRttLossDelaySaid := over
end Go.Proofs.Ytjgmindnjceofaa.fnExactRttLossDelay
