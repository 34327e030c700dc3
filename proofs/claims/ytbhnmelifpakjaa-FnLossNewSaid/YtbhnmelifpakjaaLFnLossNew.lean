/- Initially nothing was sent.
   No condition: it holds for every input. -/
import Derived.Test.YtbhnmelifpakjaaRows
import Derived.WalkKit
import Derived.ProofKit
import Derived.OpenShut
import Derived.ShutString
import Derived.ChangeOld
import Derived.Below
import Derived.Lib.SmallJoins
import Derived.Test.YtbhnmelifpakjaaLn
namespace Go.Proofs.Ytbhnmelifpakjaa.fnLossNew
open Go.ChangeShapes Go.WideShapes Go.ChangeAt Go.RowKit Go.Joins
open Go.ChangeMaps (open_string shut_string)
set_option linter.unusedVariables false

set_option maxHeartbeats 2000000 in
theorem walk (a0 : Option Addr) (len0 cap0 : Nat) (z0 : List Int) (w : World) (w0 : IsRow .u8 w a0 len0 cap0 z0) :
    Calls Try.prog 4 #[.slice a0 len0 cap0] w fun e w' => e = .returned (.bool true) ∧ Below w.heap.size w w' := by
  have hn : (len0 : Int) ≤ 9223372036854775807 := by
    unfold IsRow maxLen at w0
    rcases w0 with ⟨_, h, _, _⟩ | ⟨_, _, h1, h2, _⟩ <;> omega
  clear w0
  by_cases hb : (1048576 : Int) < (len0 : Int)
  · go_enter Try.func4, Try.ntmps4
    go_wp2
    go_ret
    exact ⟨rfl, Below.refl _ _⟩
  have h0 : (0 : Int) ≤ (len0 : Int) := by omega
  go_enter Try.func4, Try.ntmps4
  go_wp2_with fail
  refine (lnew_impl _).mono ?_
  rintro e w1 ⟨rfl, hb1⟩
  have hb2 := bpush hb1 (Obj.cells #[.int .i64 0, .slice none (0 : Nat) 0, .int .i64 (-1)] 31)
  have B2 := Blk.new w1 #[.int .i64 0, .slice none (0 : Nat) 0, .int .i64 (-1)] 31
  clear hb1
  have H1 := Lib.hid lnew_spec
  have H2 := Lib.hid lsame_new
  have H3 := Lib.hid lvalid_new
  have H4 := Lib.hid lbytes_new
  go_wp2_with fail
  go_region_held3 (fun w' => w'.cell? ⟨w1.heap.size, 0, none⟩ = some (.int .i64 0) ∧ w'.cell? ⟨w1.heap.size, 1, none⟩ = some (.slice none 0 0) ∧ w'.cell? ⟨w1.heap.size, 2, none⟩ = some (.int .i64 (-1)))
    (first | exact ⟨B6.cell 0 rfl, B6.cell 1 rfl, B6.cell 2 rfl⟩ | exact ⟨B5.cell 0 rfl, B5.cell 1 rfl, B5.cell 2 rfl⟩ | exact ⟨B4.cell 0 rfl, B4.cell 1 rfl, B4.cell 2 rfl⟩ | exact ⟨B3.cell 0 rfl, B3.cell 1 rfl, B3.cell 2 rfl⟩ | exact ⟨B2.cell 0 rfl, B2.cell 1 rfl, B2.cell 2 rfl⟩ | go_keep)
    (first | (go_at_call 13; with_reducible refine (H1.out _).mono ?_; rintro e w3 ⟨⟨a3, c3, rfl⟩, hb3⟩; have B3 := B2.drew.below hb3) | (go_at_call 12; with_reducible refine (H2.out _ _ _ _ _).mono ?_; rintro e w4 ⟨rfl, hb4⟩; have B4 := B3.below hb4) | (go_at_call 14; with_reducible refine (H3.out _ _ _).mono ?_; rintro e w5 ⟨rfl, hb5⟩; have B5 := B4.below hb5) | (go_at_call 15; with_reducible refine (H4.out _ _ _).mono ?_; rintro e w6 ⟨rfl, hb6⟩; have B6 := B5.below hb6))
  all_goals
    go_wp2_with fail
    go_ret
    exact ⟨rfl, bstep (bstep (bstep (bstep (bdrew hb2) hb3) hb4) hb5) hb6⟩

theorem own : ownKnob Try.prog.godebug = none := by kernel_rfl
theorem laidOut : laidOutB Try.prog = true := by kernel_rfl

set_option maxRecDepth 100000 in
theorem lifted (os : Os) (started : os.Started) (H : Type) (enc : TypeId × Value → H) :
    ReturnsInHanded {} Try.checked os 4 .any (Rows.fnLossNewSpec.pre6 enc Try.prog Try.f4 Rows.fnLossNewRow.domain false) (Rows.fnLossNewSpec.post enc Try.prog Try.f4 false true false false) := by
  refine returnsInHanded_of_change (C := Try.checked) own started (by kernel_rfl) Try.func4
    (ChangeSpec.witness6 (enc := enc) (C := Try.checked) false ⟨#[], #[.slice none 0 0], []⟩ 8 (by kernel_rfl) (by kernel_rfl) (by kernel_rfl) (by kernel_rfl)) ?_
  intro W base args ds gs before hval0 hW hcnd _
  have hval : ∀ (j : Nat) t v, Try.f4.params[j]? = some t → args[j]? = some v → Value.okWide Try.prog W .any base t v := hval0
  have hW' := hW
  obtain ⟨p, q, hA0, hV, rfl, hfz, hnd⟩ := hW
  have hA : DataW.TrodAll enc Try.prog W 0 (fun _ => true) true Try.f4.params.toList args.toList ds p := hA0
  rw [Try.params4] at hA hval
  obtain ⟨v0, vs0, d0, ds0, p0, q0, hargs, rfl, rfl, h0, r0⟩ := trodAll_cons hA
  obtain ⟨rfl, rfl, rfl⟩ := trodAll_nil r0
  obtain rfl : args = #[v0] := by cases args; simp_all
  obtain ⟨rfl, rfl⟩ := trodVars_none hV
  have k0 := h0
  have lt0 : ∀ x ∈ p0, x.block < W.heap.size := by obtain ⟨m, hm⟩ := k0; exact DataW.trod_lt m _ _ _ hm
  obtain ⟨a0, len0, cap0, rfl⟩ := okWide_slice Try.underlying28 (hval 0 28 v0 rfl rfl)
  obtain ⟨z0, w0⟩ : ∃ zs, IsRow .u8 W a0 len0 cap0 zs := by
    obtain ⟨fuel, hf⟩ := h0
    rcases open_ints Try.underlying28 Try.underlying5 (by kernel_rfl) hf with ⟨hcs, _⟩ | ⟨x, l, c, zs, hcs, _, hl, hm, hz, _, hcell, hwz⟩
    · simp [Value.cells] at hcs
      obtain ⟨rfl, rfl, rfl⟩ := hcs
      exact ⟨[], .inl ⟨rfl, rfl, rfl, rfl⟩⟩
    · simp [Value.cells] at hcs
      obtain ⟨rfl, rfl, rfl⟩ := hcs
      exact ⟨zs, .inr ⟨_, rfl, hl, hm, by simpa using hz, hcell, hwz⟩⟩
  clear hA0 hval0
  refine (walk a0 len0 cap0 z0 W w0).mono fun e W' ⟨he, bel⟩ => ?_
  subst he
  exact ⟨_, rfl, _, _, _, [], _, [], hW', trodAll_mk1 (shut_bool Try.underlying4 _), (trodAll_cons_mk (Below.trod laidOut (by kernel_rfl) (of_decide_eq_true (by kernel_rfl)) k0 bel lt0) trodAll_mk0), rfl, bel.frame _, fun h => by cases h⟩

theorem over : Rows.fnLossNewRow.holds Try.pinned (OpenSpec.ofChange Rows.fnLossNewSpec) :=
  OpenClaim.holds_of_wide 4 Try.f4 rfl rfl rfl rfl rfl rfl rfl ⟨rfl, rfl, rfl, rfl, rfl⟩ rfl rfl rfl rfl rfl (by kernel_rfl) Try.func4 (by kernel_rfl)
    (of_decide_eq_true (by kernel_rfl)) (by unfold Func.isWrapper; first | (rw [if_pos (by decide +kernel)]; kernel_rfl) | (rw [if_neg (by decide +kernel)]; exact ⟨rfl, rfl⟩))
    (fun os started H enc _ => lifted os started H enc)

/-- The given statement. -/
theorem proved : Rows.FnLossNewSaid := over
end Go.Proofs.Ytbhnmelifpakjaa.fnLossNew
