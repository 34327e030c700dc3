/- The probe timeout doubles.
   No condition: it holds for every input. -/
import Derived.Test.YtjgmindnjceofaaRows
import Derived.WalkKit
import Derived.ProofKit
import Derived.OpenShut
import Derived.ShutString
import Derived.ChangeOld
import Derived.Below
import Derived.Lib.SmallJoins
import Derived.Test.YtjgmindnjceofaaRy
import Derived.Test.YtjgmindnjceofaaRp
namespace Go.Proofs.Ytjgmindnjceofaa.fnRttProbe
open Go.ChangeShapes Go.WideShapes Go.ChangeAt Go.RowKit Go.Joins
open Go.ChangeMaps (open_string shut_string)
set_option linter.unusedVariables false

theorem probe_ne {a b c d k : Int} (h : ¬ probeF a b c d k = 0) : rttOk a b c d = true ∧ (0 ≤ k ∧ k ≤ 6) ∧ 0 ≤ probeF a b c d k ∧ probeF a b c d k ≤ 320000 := by
  by_cases g : rttOk a b c d = true ∧ inB k 0 6 = true
  · have hk : 0 ≤ k ∧ k ≤ 6 := by have := g.2; simp [inB] at this; exact this
    refine ⟨g.1, hk, ?_⟩
    have := probeN_bd g.1
    simp only [probeF, g, and_self, if_true]
    exact dblK_bd _ (by omega) (by omega) _ (by omega)
  · exact (h (by simp only [probeF, if_neg g])).elim
theorem probe_next {a b c d k : Int} (hv : rttOk a b c d = true) (h0 : 0 ≤ k) (h1 : k < 6) : probeF a b c d (k + 1) = 2 * probeF a b c d k := by
  have i1 : inB k 0 6 = true := inB_t (by omega)
  have i2 : inB (k + 1) 0 6 = true := inB_t (by omega)
  have e : (k + 1).toNat = k.toNat + 1 := by omega
  simp only [probeF, hv, i1, i2, and_self, if_true, e, dblK]
theorem walk (a0 : Option Addr) (len0 cap0 : Nat) (z0 : List Int) (w : World) (w0 : IsRow .u8 w a0 len0 cap0 z0) :
    Calls Try.prog 9 #[.slice a0 len0 cap0] w fun e w' => e = .returned (.bool true) ∧ Below w.heap.size w w' := by
  by_cases hb : (1048576 : Int) < (len0 : Int)
  · go_enter Try.func9, Try.ntmps9
    go_wp2
    go_ret
    exact ⟨rfl, Below.refl _ _⟩
  have HD := Lib.hid (draw_probe w a0 len0 cap0 z0 w0)
  clear w0
  go_enter Try.func9, Try.ntmps9
  go_wp2_with fail
  refine HD.out.mono ?_
  rintro e w1 ⟨a, b, c, d, k, rfl, ⟨hk1, hk2⟩, hb1⟩
  clear HD
  have B1 := Blk.new w1 #[.int .i64 a, .int .i64 b, .int .i64 c, .int .i64 d] 25
  have T1 := bpush hb1 (Obj.cells #[.int .i64 a, .int .i64 b, .int .i64 c, .int .i64 d] 25)
  by_cases h0 : probeF a b c d k = 0
  · go_wp2_with fail
    refine (probe_impl _ _ _ _ _ _).mono ?_
    rintro e w2 ⟨rfl, hb2⟩
    have B2 := B1.below hb2
    have q2 := B2.lt
    have c20 := B2.cell 0 rfl
    have c21 := B2.cell 1 rfl
    have c22 := B2.cell 2 rfl
    have c23 := B2.cell 3 rfl
    go_wp2_with fail
    refine (probe_spec _ _ _ _ _ _).mono ?_
    rintro e w3 ⟨rfl, hb3⟩
    have B3 := B2.below hb3
    have q3 := B3.lt
    have c30 := B3.cell 0 rfl
    have c31 := B3.cell 1 rfl
    have c32 := B3.cell 2 rfl
    have c33 := B3.cell 3 rfl
    go_wp2_with fail
    go_ret
    exact ⟨rfl, bstep (bstep T1 hb2) hb3⟩
  have E0 : (probeF a b c d k == 0) = false := by simp [h0]
  obtain ⟨hv, hk, hp1, hp2⟩ := probe_ne h0
  by_cases h6 : k = 6
  · subst h6
    go_wp2_with fail
    refine (probe_impl _ _ _ _ _ _).mono ?_
    rintro e w2 ⟨rfl, hb2⟩
    have B2 := B1.below hb2
    have q2 := B2.lt
    have c20 := B2.cell 0 rfl
    have c21 := B2.cell 1 rfl
    have c22 := B2.cell 2 rfl
    have c23 := B2.cell 3 rfl
    go_wp2_with fail
    refine (probe_spec _ _ _ _ _ _).mono ?_
    rintro e w3 ⟨rfl, hb3⟩
    have B3 := B2.below hb3
    have q3 := B3.lt
    have c30 := B3.cell 0 rfl
    have c31 := B3.cell 1 rfl
    have c32 := B3.cell 2 rfl
    have c33 := B3.cell 3 rfl
    go_wp2_with fail
    go_ret
    exact ⟨rfl, bstep (bstep T1 hb2) hb3⟩
  · have h6' : (k == 6) = false := by simp [h6]
    have E1 := probe_next hv hk.1 (by omega)
    obtain ⟨hk3, hk4⟩ := hk
    clear h0 h6 hv
    go_wp2_with fail
    refine (probe_impl _ _ _ _ _ _).mono ?_
    rintro e w2 ⟨rfl, hb2⟩
    have B2 := B1.below hb2
    have q2 := B2.lt
    have c20 := B2.cell 0 rfl
    have c21 := B2.cell 1 rfl
    have c22 := B2.cell 2 rfl
    have c23 := B2.cell 3 rfl
    go_wp2_with fail
    refine (probe_spec _ _ _ _ _ _).mono ?_
    rintro e w3 ⟨rfl, hb3⟩
    have B3 := B2.below hb3
    have q3 := B3.lt
    have c30 := B3.cell 0 rfl
    have c31 := B3.cell 1 rfl
    have c32 := B3.cell 2 rfl
    have c33 := B3.cell 3 rfl
    go_wp2_with fail
    refine (probe_impl _ _ _ _ _ _).mono ?_
    rintro e w4 ⟨rfl, hb4⟩
    go_wp2_with fail
    go_ret
    exact ⟨rfl, bstep (bstep (bstep T1 hb2) hb3) hb4⟩

theorem own : ownKnob Try.prog.godebug = none := by kernel_rfl
theorem laidOut : laidOutB Try.prog = true := by kernel_rfl

set_option maxRecDepth 100000 in
theorem lifted (os : Os) (started : os.Started) (H : Type) (enc : TypeId × Value → H) :
    ReturnsInHanded {} Try.checked os 9 .any (Rows.fnRttProbeSpec.pre6 enc Try.prog Try.f9 Rows.fnRttProbeRow.domain false) (Rows.fnRttProbeSpec.post enc Try.prog Try.f9 false true false false) := by
  refine returnsInHanded_of_change (C := Try.checked) own started (by kernel_rfl) Try.func9
    (ChangeSpec.witness6 (enc := enc) (C := Try.checked) false ⟨#[], #[.slice none 0 0], []⟩ 8 (by kernel_rfl) (by kernel_rfl) (by kernel_rfl) (by kernel_rfl)) ?_
  intro W base args ds gs before hval0 hW hcnd _
  have hval : ∀ (j : Nat) t v, Try.f9.params[j]? = some t → args[j]? = some v → Value.okWide Try.prog W .any base t v := hval0
  have hW' := hW
  obtain ⟨p, q, hA0, hV, rfl, hfz, hnd⟩ := hW
  have hA : DataW.TrodAll enc Try.prog W 0 (fun _ => true) true Try.f9.params.toList args.toList ds p := hA0
  rw [Try.params9] at hA hval
  obtain ⟨v0, vs0, d0, ds0, p0, q0, hargs, rfl, rfl, h0, r0⟩ := trodAll_cons hA
  obtain ⟨rfl, rfl, rfl⟩ := trodAll_nil r0
  obtain rfl : args = #[v0] := by cases args; simp_all
  obtain ⟨rfl, rfl⟩ := trodVars_none hV
  have k0 := h0
  have lt0 : ∀ x ∈ p0, x.block < W.heap.size := by obtain ⟨m, hm⟩ := k0; exact DataW.trod_lt m _ _ _ hm
  obtain ⟨a0, len0, cap0, rfl⟩ := okWide_slice Try.underlying35 (hval 0 35 v0 rfl rfl)
  obtain ⟨z0, w0⟩ : ∃ zs, IsRow .u8 W a0 len0 cap0 zs := by
    obtain ⟨fuel, hf⟩ := h0
    rcases open_ints Try.underlying35 Try.underlying5 (by kernel_rfl) hf with ⟨hcs, _⟩ | ⟨x, l, c, zs, hcs, _, hl, hm, hz, _, hcell, hwz⟩
    · simp [Value.cells] at hcs
      obtain ⟨rfl, rfl, rfl⟩ := hcs
      exact ⟨[], .inl ⟨rfl, rfl, rfl, rfl⟩⟩
    · simp [Value.cells] at hcs
      obtain ⟨rfl, rfl, rfl⟩ := hcs
      exact ⟨zs, .inr ⟨_, rfl, hl, hm, by simpa using hz, hcell, hwz⟩⟩
  clear hA0 hval0
  refine (walk a0 len0 cap0 z0 W w0).mono fun e W' ⟨he, bel⟩ => ?_
  subst he
  exact ⟨_, rfl, _, _, _, [], _, [], hW', trodAll_mk1 (shut_bool Try.underlying4 _), (trodAll_cons_mk (Below.trod laidOut (by kernel_rfl) (of_decide_eq_true (by kernel_rfl)) k0 bel lt0) trodAll_mk0), rfl, bel.frame _, fun h => by cases h⟩

theorem over : Rows.fnRttProbeRow.holds Try.pinned (OpenSpec.ofChange Rows.fnRttProbeSpec) :=
  OpenClaim.holds_of_wide 9 Try.f9 rfl rfl rfl rfl rfl rfl rfl ⟨rfl, rfl, rfl, rfl, rfl⟩ rfl rfl rfl rfl rfl (by kernel_rfl) Try.func9 (by kernel_rfl)
    (of_decide_eq_true (by kernel_rfl)) (by unfold Func.isWrapper; first | (rw [if_pos (by decide +kernel)]; kernel_rfl) | (rw [if_neg (by decide +kernel)]; exact ⟨rfl, rfl⟩))
    (fun os started H enc _ => lifted os started H enc)

/-- The given statement. -/
theorem proved : Rows.FnRttProbeSaid := over
end Go.Proofs.Ytjgmindnjceofaa.fnRttProbe
