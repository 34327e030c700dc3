/- A token states its address and time.
   No condition: it holds for every input. -/
import Derived.Test.YtompmehlbbddhaaRows
import Derived.WalkKit
import Derived.ProofKit
import Derived.OpenShut
import Derived.ShutString
import Derived.ChangeOld
import Derived.Below
import Derived.Lib.SmallJoins
import Derived.Test.YtompmehlbbddhaaTb
import Derived.Test.YtompmehlbbddhaaDt
namespace Go.Proofs.Ytompmehlbbddhaa.fnTokenFields
open Go.ChangeShapes Go.WideShapes Go.ChangeAt Go.RowKit Go.Joins
open Go.ChangeMaps (open_string shut_string)
set_option linter.unusedVariables false

theorem walk (a0 : Option Addr) (len0 cap0 : Nat) (z0 : List Int) (w : World) (w0 : IsRow .u8 w a0 len0 cap0 z0) :
    Calls Try.prog 5 #[.slice a0 len0 cap0] w fun e w' => e = .returned (.bool true) ∧ Below w.heap.size w w' := by
  by_cases hb : (1048576 : Int) < (len0 : Int)
  · go_enter Try.func5, Try.ntmps5
    go_wp2
    go_ret
    exact ⟨rfl, Below.refl _ _⟩
  have HD := Lib.hid (draw_make w a0 len0 cap0 z0 w0)
  clear w0
  go_enter Try.func5, Try.ntmps5
  go_wp2_with fail
  refine HD.out.mono ?_
  rintro e w1 ⟨s, d, t, rfl, ⟨hs1, hs2⟩, ⟨hd1, hd2⟩, ⟨ht1, ht2⟩, hb1⟩
  clear HD
  cases b : tokOk s d t
  · go_wp2_with fail
    refine (make_impl _ _ _ _).mono ?_
    rintro e w2 ⟨rfl, hb2⟩
    go_wp2_with fail
    refine (make_spec _ _ _ _).mono ?_
    rintro e w3 ⟨rfl, hb3⟩
    have B8 := (Blk.new w2 #[.int .i64 (mkA s d t), .int .i64 (mkT s d t), .int .i64 (mkG s d t)] 25).below hb3
    have q8 := B8.lt
    have c80 := B8.cell 0 rfl
    have c81 := B8.cell 1 rfl
    have c82 := B8.cell 2 rfl
    clear B8
    go_wp2_with fail
    go_ret
    exact ⟨rfl, bpush (bstep (bpush (bstep hb1 hb2) _) hb3) _⟩
  · obtain ⟨⟨hs3, hs4⟩, ⟨hd3, hd4⟩, ht3, ht4⟩ := tokOk_t b
    have e1 : mkA s d t = d := by simp [mkA, b]
    have e2 : mkT s d t = t := by simp [mkT, b]
    have e3 : mkG s d t = tagF s d t := by simp [mkG, b]
    obtain ⟨g1, g2⟩ := tagF_bd s d t
    go_wp2_with fail
    refine (make_impl _ _ _ _).mono ?_
    rintro e w2 ⟨rfl, hb2⟩
    go_wp2_with fail
    refine (make_spec _ _ _ _).mono ?_
    rintro e w3 ⟨rfl, hb3⟩
    have B8 := (Blk.new w2 #[.int .i64 d, .int .i64 t, .int .i64 (tagF s d t)] 25).below hb3
    have q8 := B8.lt
    have c80 := B8.cell 0 rfl
    have c81 := B8.cell 1 rfl
    have c82 := B8.cell 2 rfl
    clear B8
    have hB := bpush (bstep (bpush (bstep hb1 hb2) _) hb3) (Obj.cells #[.int .i64 d, .int .i64 t, .int .i64 (tagF s d t)] 25)
    have hB := Lib.hid hB
    go_wp2_with fail

    go_ret
    exact ⟨rfl, hB.out⟩

theorem own : ownKnob Try.prog.godebug = none := by kernel_rfl
theorem laidOut : laidOutB Try.prog = true := by kernel_rfl

set_option maxRecDepth 100000 in
theorem lifted (os : Os) (started : os.Started) (H : Type) (enc : TypeId × Value → H) :
    ReturnsInHanded {} Try.checked os 5 .any (Rows.fnTokenFieldsSpec.pre6 enc Try.prog Try.f5 Rows.fnTokenFieldsRow.domain false) (Rows.fnTokenFieldsSpec.post enc Try.prog Try.f5 false true false false) := by
  refine returnsInHanded_of_change (C := Try.checked) own started (by kernel_rfl) Try.func5
    (ChangeSpec.witness6 (enc := enc) (C := Try.checked) false ⟨#[], #[.slice none 0 0], []⟩ 8 (by kernel_rfl) (by kernel_rfl) (by kernel_rfl) (by kernel_rfl)) ?_
  intro W base args ds gs before hval0 hW hcnd _
  have hval : ∀ (j : Nat) t v, Try.f5.params[j]? = some t → args[j]? = some v → Value.okWide Try.prog W .any base t v := hval0
  have hW' := hW
  obtain ⟨p, q, hA0, hV, rfl, hfz, hnd⟩ := hW
  have hA : DataW.TrodAll enc Try.prog W 0 (fun _ => true) true Try.f5.params.toList args.toList ds p := hA0
  rw [Try.params5] at hA hval
  obtain ⟨v0, vs0, d0, ds0, p0, q0, hargs, rfl, rfl, h0, r0⟩ := trodAll_cons hA
  obtain ⟨rfl, rfl, rfl⟩ := trodAll_nil r0
  obtain rfl : args = #[v0] := by cases args; simp_all
  obtain ⟨rfl, rfl⟩ := trodVars_none hV
  have k0 := h0
  have lt0 : ∀ x ∈ p0, x.block < W.heap.size := by obtain ⟨m, hm⟩ := k0; exact DataW.trod_lt m _ _ _ hm
  obtain ⟨a0, len0, cap0, rfl⟩ := okWide_slice Try.underlying32 (hval 0 32 v0 rfl rfl)
  obtain ⟨z0, w0⟩ : ∃ zs, IsRow .u8 W a0 len0 cap0 zs := by
    obtain ⟨fuel, hf⟩ := h0
    rcases open_ints Try.underlying32 Try.underlying5 (by kernel_rfl) hf with ⟨hcs, _⟩ | ⟨x, l, c, zs, hcs, _, hl, hm, hz, _, hcell, hwz⟩
    · simp [Value.cells] at hcs
      obtain ⟨rfl, rfl, rfl⟩ := hcs
      exact ⟨[], .inl ⟨rfl, rfl, rfl, rfl⟩⟩
    · simp [Value.cells] at hcs
      obtain ⟨rfl, rfl, rfl⟩ := hcs
      exact ⟨zs, .inr ⟨_, rfl, hl, hm, by simpa using hz, hcell, hwz⟩⟩
  clear hA0 hval0
  refine (walk a0 len0 cap0 z0 W w0).mono fun e W' ⟨he, bel⟩ => ?_
  subst he
  exact ⟨_, rfl, _, _, _, [], _, [], hW', trodAll_mk1 (shut_bool Try.underlying4 _), (trodAll_cons_mk (Below.trod laidOut (by kernel_rfl) (of_decide_eq_true (by kernel_rfl)) k0 bel lt0) trodAll_mk0), rfl, bel.frame _, fun h => by cases h⟩

theorem over : Rows.fnTokenFieldsRow.holds Try.pinned (OpenSpec.ofChange Rows.fnTokenFieldsSpec) :=
  OpenClaim.holds_of_wide 5 Try.f5 rfl rfl rfl rfl rfl rfl rfl ⟨rfl, rfl, rfl, rfl, rfl⟩ rfl rfl rfl rfl rfl (by kernel_rfl) Try.func5 (by kernel_rfl)
    (of_decide_eq_true (by kernel_rfl)) (by unfold Func.isWrapper; first | (rw [if_pos (by decide +kernel)]; kernel_rfl) | (rw [if_neg (by decide +kernel)]; exact ⟨rfl, rfl⟩))
    (fun os started H enc _ => lifted os started H enc)

/-- The given statement. -/
theorem proved : Rows.FnTokenFieldsSaid := over
end Go.Proofs.Ytompmehlbbddhaa.fnTokenFields
