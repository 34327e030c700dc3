/- A changed token is rejected.
   No condition: it holds for every input. -/
import Derived.Test.YtompmehlbbddhaaRows
import Derived.WalkKit
import Derived.ProofKit
import Derived.OpenShut
import Derived.ShutString
import Derived.ChangeOld
import Derived.Below
import Derived.Lib.SmallJoins
import Derived.Test.YtompmehlbbddhaaTb
import Derived.Test.YtompmehlbbddhaaDt
namespace Go.Proofs.Ytompmehlbbddhaa.fnTokenTag
open Go.ChangeShapes Go.WideShapes Go.ChangeAt Go.RowKit Go.Joins
open Go.ChangeMaps (open_string shut_string)
set_option linter.unusedVariables false

theorem walk (a0 : Option Addr) (len0 cap0 : Nat) (z0 : List Int) (a1 : Option Addr) (len1 cap1 : Nat) (z1 : List Int) (w : World) (w0 : IsRow .u8 w a0 len0 cap0 z0) (w1 : IsRow .u8 w a1 len1 cap1 z1) :
    Calls Try.prog 8 #[.slice a0 len0 cap0, .slice a1 len1 cap1] w fun e w' => e = .returned (.bool true) ∧ Below w.heap.size w w' := by
  unfold IsRow maxLen at w1
  have hm1 : (len1 : Int) ≤ 9223372036854775807 := by rcases w1 with ⟨_, h, _, _⟩ | ⟨_, _, h1, h2, _⟩ <;> omega
  clear w1
  by_cases hb : (1048576 : Int) < (len0 : Int)
  · go_enter Try.func8, Try.ntmps8
    go_wp2
    go_ret
    exact ⟨rfl, Below.refl _ _⟩
  by_cases hb' : (1048576 : Int) < (len1 : Int)
  · go_enter Try.func8, Try.ntmps8
    go_wp2
    go_ret
    exact ⟨rfl, Below.refl _ _⟩
  have HD := Lib.hid (draw_make w a0 len0 cap0 z0 w0)
  clear w0 hm1
  go_enter Try.func8, Try.ntmps8
  go_wp2_with fail
  refine HD.out.mono ?_
  rintro e w1 ⟨s, d, t, rfl, ⟨hs1, hs2⟩, ⟨hd1, hd2⟩, ⟨ht1, ht2⟩, hb1⟩
  clear HD
  cases b : tokOk s d t
  · go_wp2_with fail
    refine (make_impl _ _ _ _).mono ?_
    rintro e w2 ⟨rfl, hb2⟩
    go_wp2_with fail
    refine (make_spec _ _ _ _).mono ?_
    rintro e w3 ⟨rfl, hb3⟩
    have B8 := (Blk.new w2 #[.int .i64 (mkA s d t), .int .i64 (mkT s d t), .int .i64 (mkG s d t)] 25).below hb3
    have q8 := B8.lt
    have c80 := B8.cell 0 rfl
    have c81 := B8.cell 1 rfl
    have c82 := B8.cell 2 rfl
    clear B8
    go_wp2_with fail
    go_ret
    exact ⟨rfl, bpush (bstep (bpush (bstep hb1 hb2) _) hb3) _⟩
  · obtain ⟨⟨hs3, hs4⟩, ⟨hd3, hd4⟩, ht3, ht4⟩ := tokOk_t b
    have e1 : mkA s d t = d := by simp [mkA, b]
    have e2 : mkT s d t = t := by simp [mkT, b]
    have e3 : mkG s d t = tagF s d t := by simp [mkG, b]
    obtain ⟨g1, g2⟩ := tagF_bd s d t
    go_wp2_with fail
    refine (make_impl _ _ _ _).mono ?_
    rintro e w2 ⟨rfl, hb2⟩
    go_wp2_with fail
    refine (make_spec _ _ _ _).mono ?_
    rintro e w3 ⟨rfl, hb3⟩
    have B8 := (Blk.new w2 #[.int .i64 d, .int .i64 t, .int .i64 (tagF s d t)] 25).below hb3
    have q8 := B8.lt
    have c80 := B8.cell 0 rfl
    have c81 := B8.cell 1 rfl
    have c82 := B8.cell 2 rfl
    clear B8
    have hB := Lib.hid (bstep (bpush (bstep hb1 hb2) (Obj.cells #[.int .i64 d, .int .i64 t, .int .i64 (tagF s d t)] 25)) hb3)
    have q81 : w2.heap.size < w3.heap.size + 1 := by omega
    have q82 : w2.heap.size < w3.heap.size + 1 + 1 := by omega
    have q83 : w2.heap.size < w3.heap.size + 1 + 1 + 1 := by omega
    have n1 : 0 ≤ (len1 : Int) % 100 := by omega
    have n2 : (len1 : Int) % 100 < 100 := by omega
    have e4 : accF s d t (tagF s d t + 1 + (len1 : Int) % 100) d t = false := by
      have : ¬ tagF s d t + 1 + (len1 : Int) % 100 = tagF s d t := by omega
      simp [accF, this]
    have e5 : accF s (d + 1) t (tagF s d t) d t = false := by
      have : ¬ d + 1 = d := by omega
      simp [accF, this]
    have e6 : accF s d (t + 1) (tagF s d t) d t = false := by
      have : inB (t + 1) 0 t = false := inB_f (by omega)
      simp [accF, this]
    go_wp2_with fail
    refine (acc_impl _ _ _ _ _ _ _).mono ?_
    rintro e w4 ⟨rfl, hb4⟩
    obtain ⟨hc4, hf4⟩ := bcell hb4
    have hz4 := hb4.size
    simp at hz4
    have q84 : w3.heap.size + 1 + 1 + 1 < w4.heap.size := by omega
    have q85 : w3.heap.size + 1 + 1 < w4.heap.size := by omega
    go_wp2_with fail
    refine (acc_impl _ _ _ _ _ _ _).mono ?_
    rintro e w5 ⟨rfl, hb5⟩
    obtain ⟨hc5, hf5⟩ := bcell hb5
    have hz5 := hb5.size
    go_wp2_with fail
    refine (acc_impl _ _ _ _ _ _ _).mono ?_
    rintro e w6 ⟨rfl, hb6⟩
    go_wp2_with fail
    go_ret
    exact ⟨rfl, bstep (bstep (bstep (bpush (bpush (bpush (bpush hB.out _) _) _) _) hb4) hb5) hb6⟩

theorem own : ownKnob Try.prog.godebug = none := by kernel_rfl
theorem laidOut : laidOutB Try.prog = true := by kernel_rfl

set_option maxRecDepth 100000 in
theorem lifted (os : Os) (started : os.Started) (H : Type) (enc : TypeId × Value → H) :
    ReturnsInHanded {} Try.checked os 8 .any (Rows.fnTokenTagSpec.pre6 enc Try.prog Try.f8 Rows.fnTokenTagRow.domain false) (Rows.fnTokenTagSpec.post enc Try.prog Try.f8 false true false false) := by
  refine returnsInHanded_of_change (C := Try.checked) own started (by kernel_rfl) Try.func8
    (ChangeSpec.witness6 (enc := enc) (C := Try.checked) false ⟨#[], #[.slice none 0 0, .slice none 0 0], []⟩ 8 (by kernel_rfl) (by kernel_rfl) (by kernel_rfl) (by kernel_rfl)) ?_
  intro W base args ds gs before hval0 hW hcnd _
  have hval : ∀ (j : Nat) t v, Try.f8.params[j]? = some t → args[j]? = some v → Value.okWide Try.prog W .any base t v := hval0
  have hW' := hW
  obtain ⟨p, q, hA0, hV, rfl, hfz, hnd⟩ := hW
  have hA : DataW.TrodAll enc Try.prog W 0 (fun _ => true) true Try.f8.params.toList args.toList ds p := hA0
  rw [Try.params8] at hA hval
  obtain ⟨v0, vs0, d0, ds0, p0, q0, hargs, rfl, rfl, h0, r0⟩ := trodAll_cons hA
  obtain ⟨v1, vs1, d1, ds1, p1, q1, rfl, rfl, rfl, h1, r1⟩ := trodAll_cons r0
  obtain ⟨rfl, rfl, rfl⟩ := trodAll_nil r1
  obtain rfl : args = #[v0, v1] := by cases args; simp_all
  obtain ⟨rfl, rfl⟩ := trodVars_none hV
  have k0 := h0
  have lt0 : ∀ x ∈ p0, x.block < W.heap.size := by obtain ⟨m, hm⟩ := k0; exact DataW.trod_lt m _ _ _ hm
  have k1 := h1
  have lt1 : ∀ x ∈ p1, x.block < W.heap.size := by obtain ⟨m, hm⟩ := k1; exact DataW.trod_lt m _ _ _ hm
  obtain ⟨a0, len0, cap0, rfl⟩ := okWide_slice Try.underlying32 (hval 0 32 v0 rfl rfl)
  obtain ⟨z0, w0⟩ : ∃ zs, IsRow .u8 W a0 len0 cap0 zs := by
    obtain ⟨fuel, hf⟩ := h0
    rcases open_ints Try.underlying32 Try.underlying5 (by kernel_rfl) hf with ⟨hcs, _⟩ | ⟨x, l, c, zs, hcs, _, hl, hm, hz, _, hcell, hwz⟩
    · simp [Value.cells] at hcs
      obtain ⟨rfl, rfl, rfl⟩ := hcs
      exact ⟨[], .inl ⟨rfl, rfl, rfl, rfl⟩⟩
    · simp [Value.cells] at hcs
      obtain ⟨rfl, rfl, rfl⟩ := hcs
      exact ⟨zs, .inr ⟨_, rfl, hl, hm, by simpa using hz, hcell, hwz⟩⟩
  obtain ⟨a1, len1, cap1, rfl⟩ := okWide_slice Try.underlying32 (hval 1 32 v1 rfl rfl)
  obtain ⟨z1, w1⟩ : ∃ zs, IsRow .u8 W a1 len1 cap1 zs := by
    obtain ⟨fuel, hf⟩ := h1
    rcases open_ints Try.underlying32 Try.underlying5 (by kernel_rfl) hf with ⟨hcs, _⟩ | ⟨x, l, c, zs, hcs, _, hl, hm, hz, _, hcell, hwz⟩
    · simp [Value.cells] at hcs
      obtain ⟨rfl, rfl, rfl⟩ := hcs
      exact ⟨[], .inl ⟨rfl, rfl, rfl, rfl⟩⟩
    · simp [Value.cells] at hcs
      obtain ⟨rfl, rfl, rfl⟩ := hcs
      exact ⟨zs, .inr ⟨_, rfl, hl, hm, by simpa using hz, hcell, hwz⟩⟩
  clear hA0 hval0
  refine (walk a0 len0 cap0 z0 a1 len1 cap1 z1 W w0 w1).mono fun e W' ⟨he, bel⟩ => ?_
  subst he
  exact ⟨_, rfl, _, _, _, [], _, [], hW', trodAll_mk1 (shut_bool Try.underlying4 _), (trodAll_cons_mk (Below.trod laidOut (by kernel_rfl) (of_decide_eq_true (by kernel_rfl)) k0 bel lt0) (trodAll_cons_mk (Below.trod laidOut (by kernel_rfl) (of_decide_eq_true (by kernel_rfl)) k1 bel lt1) trodAll_mk0)), rfl, bel.frame _, fun h => by cases h⟩

theorem over : Rows.fnTokenTagRow.holds Try.pinned (OpenSpec.ofChange Rows.fnTokenTagSpec) :=
  OpenClaim.holds_of_wide 8 Try.f8 rfl rfl rfl rfl rfl rfl rfl ⟨rfl, rfl, rfl, rfl, rfl⟩ rfl rfl rfl rfl rfl (by kernel_rfl) Try.func8 (by kernel_rfl)
    (of_decide_eq_true (by kernel_rfl)) (by unfold Func.isWrapper; first | (rw [if_pos (by decide +kernel)]; kernel_rfl) | (rw [if_neg (by decide +kernel)]; exact ⟨rfl, rfl⟩))
    (fun os started H enc _ => lifted os started H enc)

/-- The given statement. -/
theorem proved : Rows.FnTokenTagSaid := over
end Go.Proofs.Ytompmehlbbddhaa.fnTokenTag
