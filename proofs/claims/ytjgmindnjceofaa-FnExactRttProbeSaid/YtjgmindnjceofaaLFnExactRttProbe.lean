/- The program's RttProbe returns what the reference's returns, for all arguments.
   No condition: it holds for every input. -/
import Derived.Test.YtjgmindnjceofaaRows
import Derived.WalkKit
import Derived.ProofKit
import Derived.OpenShut
import Derived.ShutString
import Derived.ChangeOld
import Derived.Below
import Derived.Lib.SmallJoins
import Derived.Test.YtjgmindnjceofaaRp
import Derived.Test.YtjgmindnjceofaaRe
namespace Go.Proofs.Ytjgmindnjceofaa.fnExactRttProbe
open Go.ChangeShapes Go.WideShapes Go.ChangeAt Go.RowKit Go.Joins
open Go.ChangeMaps (open_string shut_string)
set_option linter.unusedVariables false

theorem walk (x y z v a1 : Int) (w : World) (w1 : (Lit.int .i64 a1).wf = true) :
    Calls Try.prog 5 #[.agg #[.int .i64 x, .int .i64 y, .int .i64 z, .int .i64 v], .int .i64 a1] w fun e w' => e = .returned (.bool true) ∧ Below w.heap.size w w' := by
  clear w1
  go_enter Try.func5, Try.ntmps5
  go_wp2_with fail
  refine (toRtt_c _ _ _ _ _).mono ?_
  rintro e w1 ⟨rfl, hb1⟩
  have B8 := (Blk.new w #[.int .i64 x, .int .i64 y, .int .i64 z, .int .i64 v] 23).below hb1
  have c80 := B8.cell 0 rfl
  have c81 := B8.cell 1 rfl
  have c82 := B8.cell 2 rfl
  have c83 := B8.cell 3 rfl
  go_wp2_with fail
  refine (probe_spec _ _ _ _ _ _).mono ?_
  rintro e w2 ⟨rfl, hb2⟩
  have B8 := B8.below hb2
  have d80 := B8.cell 0 rfl
  have d81 := B8.cell 1 rfl
  have d82 := B8.cell 2 rfl
  have d83 := B8.cell 3 rfl
  go_wp2_with fail
  refine (toRtt_c _ _ _ _ _).mono ?_
  rintro e w3 ⟨rfl, hb3⟩
  go_wp2_with fail
  refine (probe_impl _ _ _ _ _ _).mono ?_
  rintro e w4 ⟨rfl, hb4⟩
  go_wp2_with fail
  go_ret
  exact ⟨rfl, bstep (bstep (bstep (bstep (bpush (Below.refl _ _) _) hb1) hb2) hb3) hb4⟩

theorem own : ownKnob Try.prog.godebug = none := by kernel_rfl
theorem laidOut : laidOutB Try.prog = true := by kernel_rfl

set_option maxRecDepth 100000 in
theorem lifted (os : Os) (started : os.Started) (H : Type) (enc : TypeId × Value → H) :
    ReturnsInHanded {} Try.checked os 5 .any (Rows.fnExactRttProbeSpec.pre6 enc Try.prog Try.f5 Rows.fnExactRttProbeRow.domain false) (Rows.fnExactRttProbeSpec.post enc Try.prog Try.f5 false true false false) := by
  refine returnsInHanded_of_change (C := Try.checked) own started (by kernel_rfl) Try.func5
    (ChangeSpec.witness6 (enc := enc) (C := Try.checked) false ⟨#[], #[.agg #[.int .i64 0, .int .i64 0, .int .i64 0, .int .i64 0], .int .i64 0], []⟩ 8 (by kernel_rfl) (by kernel_rfl) (by kernel_rfl) (by kernel_rfl)) ?_
  intro W base args ds gs before hval0 hW hcnd _
  have hval : ∀ (j : Nat) t v, Try.f5.params[j]? = some t → args[j]? = some v → Value.okWide Try.prog W .any base t v := hval0
  have hW' := hW
  obtain ⟨p, q, hA0, hV, rfl, hfz, hnd⟩ := hW
  have hA : DataW.TrodAll enc Try.prog W 0 (fun _ => true) true Try.f5.params.toList args.toList ds p := hA0
  rw [Try.params5] at hA hval
  obtain ⟨v0, vs0, d0, ds0, p0, q0, hargs, rfl, rfl, h0, r0⟩ := trodAll_cons hA
  obtain ⟨v1, vs1, d1, ds1, p1, q1, rfl, rfl, rfl, h1, r1⟩ := trodAll_cons r0
  obtain ⟨rfl, rfl, rfl⟩ := trodAll_nil r1
  obtain rfl : args = #[v0, v1] := by cases args; simp_all
  obtain ⟨rfl, rfl⟩ := trodVars_none hV
  have k0 := h0
  have lt0 : ∀ x ∈ p0, x.block < W.heap.size := by obtain ⟨m, hm⟩ := k0; exact DataW.trod_lt m _ _ _ hm
  have k1 := h1
  have lt1 : ∀ x ∈ p1, x.block < W.heap.size := by obtain ⟨m, hm⟩ := k1; exact DataW.trod_lt m _ _ _ hm
  obtain ⟨c0a, c0b, c0c, c0d, y0a, y0b, y0c, y0d, m0, rfl, rfl, hp0, hy0a, hy0b, hy0c, hy0d⟩ := open_agg4 Try.underlying23 (by kernel_rfl) (by kernel_rfl) (hval 0 23 v0 rfl rfl) h0
  obtain ⟨x0a, e0a, f0a, w0a⟩ := DataW.trod_int Try.underlying3 hy0a
  simp at e0a f0a
  subst e0a
  obtain ⟨x0b, e0b, f0b, w0b⟩ := DataW.trod_int Try.underlying3 hy0b
  simp at e0b f0b
  subst e0b
  obtain ⟨x0c, e0c, f0c, w0c⟩ := DataW.trod_int Try.underlying3 hy0c
  simp at e0c f0c
  subst e0c
  obtain ⟨x0d, e0d, f0d, w0d⟩ := DataW.trod_int Try.underlying3 hy0d
  simp at e0d f0d
  subst e0d
  obtain ⟨a1, rfl, rfl, rfl, w1⟩ := open_int Try.underlying3 (hval 1 3 v1 rfl rfl) h1
  clear hA0 hval0
  refine (walk x0a x0b x0c x0d a1 W  w1).mono fun e W' ⟨he, bel⟩ => ?_
  subst he
  exact ⟨_, rfl, _, _, _, [], _, [], hW', trodAll_mk1 (shut_bool Try.underlying4 _), (trodAll_cons_mk (Below.trod laidOut (by kernel_rfl) (of_decide_eq_true (by kernel_rfl)) k0 bel lt0) (trodAll_cons_mk (Below.trod laidOut (by kernel_rfl) (of_decide_eq_true (by kernel_rfl)) k1 bel lt1) trodAll_mk0)), rfl, bel.frame _, fun h => by cases h⟩

theorem over : Rows.fnExactRttProbeRow.holds Try.pinned (OpenSpec.ofChange Rows.fnExactRttProbeSpec) :=
  OpenClaim.holds_of_wide 5 Try.f5 rfl rfl rfl rfl rfl rfl rfl ⟨rfl, rfl, rfl, rfl, rfl⟩ rfl rfl rfl rfl rfl (by kernel_rfl) Try.func5 (by kernel_rfl)
    (of_decide_eq_true (by kernel_rfl)) (by unfold Func.isWrapper; first | (rw [if_pos (by decide +kernel)]; kernel_rfl) | (rw [if_neg (by decide +kernel)]; exact ⟨rfl, rfl⟩))
    (fun os started H enc _ => lifted os started H enc)

/-- The given statement. -/
theorem proved : Rows.FnExactRttProbeSaid := over
end Go.Proofs.Ytjgmindnjceofaa.fnExactRttProbe
