/- The program's LossNew returns what the reference's returns, and memory that nothing else shares.
   No condition: it holds for every input. -/
import Derived.Test.YtbhnmelifpakjaaRows
import Derived.WalkKit
import Derived.ProofKit
import Derived.OpenShut
import Derived.ShutString
import Derived.ChangeOld
import Derived.Below
import Derived.Lib.SmallJoins
import Derived.Test.YtbhnmelifpakjaaLn
namespace Go.Proofs.Ytbhnmelifpakjaa.fnExactLossNew
open Go.ChangeShapes Go.WideShapes Go.ChangeAt Go.RowKit Go.Joins
open Go.ChangeMaps (open_string shut_string)
set_option linter.unusedVariables false

theorem walk (w : World) :
    Calls Try.prog 6 #[] w fun e w' => e = .returned (.bool true) ∧ Below w.heap.size w w' := by
  have heq := fun (a b : Option Addr) (c d : Nat) (w : World) => eqLoss_c 0 (-1) a b 0 c d [] w (sl_none _ _ _ _) (sl_none _ _ _ _)
  have H := Lib.hid heq
  clear heq
  go_enter Try.func6, Try.ntmps6
  go_wp2_with fail
  refine (lnew_spec _).mono ?_
  rintro e w1 ⟨⟨a1, c1, rfl⟩, hb1⟩
  have hB1 := bpush hb1 (Obj.cells #[.int .i64 0, .slice a1 (0 : Nat) c1, .int .i64 (-1)] 31)
  have B1 := Blk.new w1 #[.int .i64 0, .slice a1 (0 : Nat) c1, .int .i64 (-1)] 31
  clear hb1
  go_wp2_with fail
  refine (lnew_impl _).mono ?_
  rintro e w2 ⟨rfl, hb2⟩
  have hB2 := bpush (bstep hB1 hb2) (Obj.cells #[.int .i64 0, .slice none (0 : Nat) 0, .int .i64 (-1)] 31)
  have C1 := (B1.below hb2).alloc (Obj.cells #[.int .i64 0, .slice none (0 : Nat) 0, .int .i64 (-1)] 31)
  have D1 := Blk.new w2 #[.int .i64 0, .slice none (0 : Nat) 0, .int .i64 (-1)] 31
  have x0 := (B1.below hb2).cell 0 rfl
  have x1 := (B1.below hb2).cell 1 rfl
  have x2 := (B1.below hb2).cell 2 rfl
  have q1 := (B1.below hb2).lt
  clear hB1 hb2 B1
  go_wp2_with fail
  refine (H.out _ _ _ _ _).mono ?_
  rintro e w3 ⟨rfl, hb3⟩
  have hB3 := bstep hB2 hb3
  have C3 := C1.below hb3
  have D3 := D1.below hb3
  have d30 := D3.cell 0 rfl
  have d31 := D3.cell 1 rfl
  have d32 := D3.cell 2 rfl
  clear hB2 hb3 C1 D1 x0 x1 x2 q1
  go_wp2_with fail
  refine (lmark_new _ _ _ _).mono ?_
  rintro e w4 ⟨rfl, hb4⟩
  have hB4 := bstep hB3 hb4
  have C4 := C3.below hb4
  have D4 := D3.below hb4
  have d40 := D4.cell 0 rfl
  have d41 := D4.cell 1 rfl
  have d42 := D4.cell 2 rfl
  clear hB3 hb4 C3 D3 d30 d31 d32
  go_wp2_with fail
  refine (lheld_new _ _ _ _ (by omega)).mono ?_
  rintro e w5 ⟨rfl, hb5⟩
  have hB5 := bstep hB4 hb5
  have C5 := C4.below hb5
  have D5 := D4.below hb5
  clear hB4 hb5 C4 D4 d40 d41 d42
  go_wp2_with fail
  refine (lnew_impl _).mono ?_
  rintro e w6 ⟨rfl, hb6⟩
  have hB6 := bpush (bstep hB5 hb6) (Obj.cells #[.int .i64 0, .slice none (0 : Nat) 0, .int .i64 (-1)] 31)
  have C6 := C5.below hb6
  have D6 := D5.below hb6
  have x0 := C6.cell 0 rfl
  have x1 := C6.cell 1 rfl
  have x2 := C6.cell 2 rfl
  have q1 := C6.lt
  have q2 := D6.lt
  clear hB5 hb6 C5 D5
  go_wp2_with fail
  refine (H.out _ _ _ _ _).mono ?_
  rintro e w7 ⟨rfl, hb7⟩
  have hB7 := bstep hB6 hb7
  have D7 := (D6.alloc (Obj.cells #[.int .i64 0, .slice none (0 : Nat) 0, .int .i64 (-1)] 31)).below hb7
  have d70 := D7.cell 0 rfl
  have d71 := D7.cell 1 rfl
  have d72 := D7.cell 2 rfl
  clear hB6 hb7 x0 x1 x2 q1 q2 C6 D6
  go_wp2_with fail
  refine (lheld_new _ _ _ _ (by omega)).mono ?_
  rintro e w8 ⟨rfl, hb8⟩
  go_wp2_with fail
  go_ret
  exact ⟨rfl, bstep hB7 hb8⟩

theorem own : ownKnob Try.prog.godebug = none := by kernel_rfl
theorem laidOut : laidOutB Try.prog = true := by kernel_rfl

set_option maxRecDepth 100000 in
theorem lifted (os : Os) (started : os.Started) (H : Type) (enc : TypeId × Value → H) :
    ReturnsInHanded {} Try.checked os 6 .any (Rows.fnExactLossNewSpec.pre6 enc Try.prog Try.f6 Rows.fnExactLossNewRow.domain false) (Rows.fnExactLossNewSpec.post enc Try.prog Try.f6 false true false false) := by
  refine returnsInHanded_of_change (C := Try.checked) own started (by kernel_rfl) Try.func6
    (ChangeSpec.witness6 (enc := enc) (C := Try.checked) false ⟨#[], #[], []⟩ 8 (by kernel_rfl) (by kernel_rfl) (by kernel_rfl) (by kernel_rfl)) ?_
  intro W base args ds gs before hval0 hW hcnd _
  have hval : ∀ (j : Nat) t v, Try.f6.params[j]? = some t → args[j]? = some v → Value.okWide Try.prog W .any base t v := hval0
  have hW' := hW
  obtain ⟨p, q, hA0, hV, rfl, hfz, hnd⟩ := hW
  have hA : DataW.TrodAll enc Try.prog W 0 (fun _ => true) true Try.f6.params.toList args.toList ds p := hA0
  rw [Try.params6] at hA hval
  obtain ⟨rfl, rfl, rfl⟩ := trodAll_none hA
  obtain ⟨rfl, rfl⟩ := trodVars_none hV
  clear hA0 hval0
  refine (walk  W ).mono fun e W' ⟨he, bel⟩ => ?_
  subst he
  exact ⟨_, rfl, _, _, _, [], _, [], hW', trodAll_mk1 (shut_bool Try.underlying4 _), trodAll_mk0, rfl, bel.frame _, fun h => by cases h⟩

theorem over : Rows.fnExactLossNewRow.holds Try.pinned (OpenSpec.ofChange Rows.fnExactLossNewSpec) :=
  OpenClaim.holds_of_wide 6 Try.f6 rfl rfl rfl rfl rfl rfl rfl ⟨rfl, rfl, rfl, rfl, rfl⟩ rfl rfl rfl rfl rfl (by kernel_rfl) Try.func6 (by kernel_rfl)
    (of_decide_eq_true (by kernel_rfl)) (by unfold Func.isWrapper; first | (rw [if_pos (by decide +kernel)]; kernel_rfl) | (rw [if_neg (by decide +kernel)]; exact ⟨rfl, rfl⟩))
    (fun os started H enc _ => lifted os started H enc)

/-- The given statement. -/
theorem proved : Rows.FnExactLossNewSaid := over
end Go.Proofs.Ytbhnmelifpakjaa.fnExactLossNew
