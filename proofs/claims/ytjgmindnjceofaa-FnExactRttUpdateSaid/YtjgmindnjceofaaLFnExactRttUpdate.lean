/- The program's RttUpdate returns what the reference's returns, for all arguments.
   No condition: it holds for every input. -/
import Derived.Test.YtjgmindnjceofaaRows
import Derived.WalkKit
import Derived.ProofKit
import Derived.OpenShut
import Derived.ShutString
import Derived.ChangeOld
import Derived.Below
import Derived.Lib.SmallJoins
import Derived.Test.YtjgmindnjceofaaRs
import Derived.Test.YtjgmindnjceofaaRe
namespace Go.Proofs.Ytjgmindnjceofaa.fnExactRttUpdate
open Go.ChangeShapes Go.WideShapes Go.ChangeAt Go.RowKit Go.Joins
open Go.ChangeMaps (open_string shut_string)
set_option linter.unusedVariables false

theorem walk (x y z v a1 a2 : Int) (w : World) (w1 : (Lit.int .i64 a1).wf = true) (w2 : (Lit.int .i64 a2).wf = true) :
    Calls Try.prog 6 #[.agg #[.int .i64 x, .int .i64 y, .int .i64 z, .int .i64 v], .int .i64 a1, .int .i64 a2] w fun e w' => e = .returned (.bool true) ∧ Below w.heap.size w w' := by
  clear w1 w2
  go_enter Try.func6, Try.ntmps6
  go_wp2_with fail
  refine (toRtt_c _ _ _ _ _).mono ?_
  rintro e w1 ⟨rfl, hb1⟩
  have B8 := (Blk.new w #[.int .i64 x, .int .i64 y, .int .i64 z, .int .i64 v] 23).below hb1
  have c80 := B8.cell 0 rfl
  have c81 := B8.cell 1 rfl
  have c82 := B8.cell 2 rfl
  have c83 := B8.cell 3 rfl
  go_wp2_with fail
  refine (upd_spec _ _ _ _ _ _ _).mono ?_
  rintro e w2 ⟨rfl, hb2⟩
  have B8 := (B8.below hb2).alloc (Obj.cells #[.int .i64 (rA x y z v a1 a2), .int .i64 (rB x y z v a1 a2), .int .i64 (rC x y z v a1 a2), .int .i64 (rD x y z v a1 a2)] 25)
  have B9 := Blk.new w2 #[.int .i64 (rA x y z v a1 a2), .int .i64 (rB x y z v a1 a2), .int .i64 (rC x y z v a1 a2), .int .i64 (rD x y z v a1 a2)] 25
  have q8 := (B8.lt)
  have q8' : w.heap.size < w2.heap.size := by have h1 := hb1.size; have h2 := hb2.size; simp at h1; omega
  have d80 := B8.cell 0 rfl
  have d81 := B8.cell 1 rfl
  have d82 := B8.cell 2 rfl
  have d83 := B8.cell 3 rfl
  go_wp2_with fail
  refine (toRtt_c _ _ _ _ _).mono ?_
  rintro e w3 ⟨rfl, hb3⟩
  go_wp2_with fail
  refine (upd_impl _ _ _ _ _ _ _).mono ?_
  rintro e w4 ⟨rfl, hb4⟩
  have B9 := (B9.below hb3).below hb4
  have q9 := B9.lt
  have e80 := B9.cell 0 rfl
  have e81 := B9.cell 1 rfl
  have e82 := B9.cell 2 rfl
  have e83 := B9.cell 3 rfl
  have HB := Lib.hid (bpush (bstep (bstep (bpush (bstep (bstep (bpush (Below.refl w.heap.size w) _) hb1) hb2) _) hb3) hb4) (Obj.cells #[.int .i64 (rA x y z v a1 a2), .int .i64 (rB x y z v a1 a2), .int .i64 (rC x y z v a1 a2), .int .i64 (rD x y z v a1 a2)] 25))
  clear hb1 hb2 hb3 hb4 B8 B9
  go_wp2_with fail
  refine (eqRtt_c _ _ _ _ _).mono ?_
  rintro e w5 ⟨rfl, hb5⟩
  go_wp2_with fail
  go_ret
  exact ⟨rfl, bstep HB.out hb5⟩

theorem own : ownKnob Try.prog.godebug = none := by kernel_rfl
theorem laidOut : laidOutB Try.prog = true := by kernel_rfl

set_option maxRecDepth 100000 in
theorem lifted (os : Os) (started : os.Started) (H : Type) (enc : TypeId × Value → H) :
    ReturnsInHanded {} Try.checked os 6 .any (Rows.fnExactRttUpdateSpec.pre6 enc Try.prog Try.f6 Rows.fnExactRttUpdateRow.domain false) (Rows.fnExactRttUpdateSpec.post enc Try.prog Try.f6 false true false false) := by
  refine returnsInHanded_of_change (C := Try.checked) own started (by kernel_rfl) Try.func6
    (ChangeSpec.witness6 (enc := enc) (C := Try.checked) false ⟨#[], #[.agg #[.int .i64 0, .int .i64 0, .int .i64 0, .int .i64 0], .int .i64 0, .int .i64 0], []⟩ 8 (by kernel_rfl) (by kernel_rfl) (by kernel_rfl) (by kernel_rfl)) ?_
  intro W base args ds gs before hval0 hW hcnd _
  have hval : ∀ (j : Nat) t v, Try.f6.params[j]? = some t → args[j]? = some v → Value.okWide Try.prog W .any base t v := hval0
  have hW' := hW
  obtain ⟨p, q, hA0, hV, rfl, hfz, hnd⟩ := hW
  have hA : DataW.TrodAll enc Try.prog W 0 (fun _ => true) true Try.f6.params.toList args.toList ds p := hA0
  rw [Try.params6] at hA hval
  obtain ⟨v0, vs0, d0, ds0, p0, q0, hargs, rfl, rfl, h0, r0⟩ := trodAll_cons hA
  obtain ⟨v1, vs1, d1, ds1, p1, q1, rfl, rfl, rfl, h1, r1⟩ := trodAll_cons r0
  obtain ⟨v2, vs2, d2, ds2, p2, q2, rfl, rfl, rfl, h2, r2⟩ := trodAll_cons r1
  obtain ⟨rfl, rfl, rfl⟩ := trodAll_nil r2
  obtain rfl : args = #[v0, v1, v2] := by cases args; simp_all
  obtain ⟨rfl, rfl⟩ := trodVars_none hV
  have k0 := h0
  have lt0 : ∀ x ∈ p0, x.block < W.heap.size := by obtain ⟨m, hm⟩ := k0; exact DataW.trod_lt m _ _ _ hm
  have k1 := h1
  have lt1 : ∀ x ∈ p1, x.block < W.heap.size := by obtain ⟨m, hm⟩ := k1; exact DataW.trod_lt m _ _ _ hm
  have k2 := h2
  have lt2 : ∀ x ∈ p2, x.block < W.heap.size := by obtain ⟨m, hm⟩ := k2; exact DataW.trod_lt m _ _ _ hm
  obtain ⟨c0a, c0b, c0c, c0d, y0a, y0b, y0c, y0d, m0, rfl, rfl, hp0, hy0a, hy0b, hy0c, hy0d⟩ := open_agg4 Try.underlying23 (by kernel_rfl) (by kernel_rfl) (hval 0 23 v0 rfl rfl) h0
  obtain ⟨x0a, e0a, f0a, w0a⟩ := DataW.trod_int Try.underlying3 hy0a
  simp at e0a f0a
  subst e0a
  obtain ⟨x0b, e0b, f0b, w0b⟩ := DataW.trod_int Try.underlying3 hy0b
  simp at e0b f0b
  subst e0b
  obtain ⟨x0c, e0c, f0c, w0c⟩ := DataW.trod_int Try.underlying3 hy0c
  simp at e0c f0c
  subst e0c
  obtain ⟨x0d, e0d, f0d, w0d⟩ := DataW.trod_int Try.underlying3 hy0d
  simp at e0d f0d
  subst e0d
  obtain ⟨a1, rfl, rfl, rfl, w1⟩ := open_int Try.underlying3 (hval 1 3 v1 rfl rfl) h1
  obtain ⟨a2, rfl, rfl, rfl, w2⟩ := open_int Try.underlying3 (hval 2 3 v2 rfl rfl) h2
  clear hA0 hval0
  refine (walk x0a x0b x0c x0d a1 a2 W  w1 w2).mono fun e W' ⟨he, bel⟩ => ?_
  subst he
  exact ⟨_, rfl, _, _, _, [], _, [], hW', trodAll_mk1 (shut_bool Try.underlying4 _), (trodAll_cons_mk (Below.trod laidOut (by kernel_rfl) (of_decide_eq_true (by kernel_rfl)) k0 bel lt0) (trodAll_cons_mk (Below.trod laidOut (by kernel_rfl) (of_decide_eq_true (by kernel_rfl)) k1 bel lt1) (trodAll_cons_mk (Below.trod laidOut (by kernel_rfl) (of_decide_eq_true (by kernel_rfl)) k2 bel lt2) trodAll_mk0))), rfl, bel.frame _, fun h => by cases h⟩

theorem over : Rows.fnExactRttUpdateRow.holds Try.pinned (OpenSpec.ofChange Rows.fnExactRttUpdateSpec) :=
  OpenClaim.holds_of_wide 6 Try.f6 rfl rfl rfl rfl rfl rfl rfl ⟨rfl, rfl, rfl, rfl, rfl⟩ rfl rfl rfl rfl rfl (by kernel_rfl) Try.func6 (by kernel_rfl)
    (of_decide_eq_true (by kernel_rfl)) (by unfold Func.isWrapper; first | (rw [if_pos (by decide +kernel)]; kernel_rfl) | (rw [if_neg (by decide +kernel)]; exact ⟨rfl, rfl⟩))
    (fun os started H enc _ => lifted os started H enc)

/-- The given statement. -/
theorem proved : Rows.FnExactRttUpdateSaid := over
end Go.Proofs.Ytjgmindnjceofaa.fnExactRttUpdate
