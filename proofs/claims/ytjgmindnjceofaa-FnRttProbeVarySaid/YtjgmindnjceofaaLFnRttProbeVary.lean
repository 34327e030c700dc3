/- A larger variation gives a larger probe timeout.
   No condition: it holds for every input. -/
import Derived.Test.YtjgmindnjceofaaRows
import Derived.WalkKit
import Derived.ProofKit
import Derived.OpenShut
import Derived.ShutString
import Derived.ChangeOld
import Derived.Below
import Derived.Lib.SmallJoins
import Derived.Test.YtjgmindnjceofaaRy
import Derived.Test.YtjgmindnjceofaaRp
namespace Go.Proofs.Ytjgmindnjceofaa.fnRttProbeVary
open Go.ChangeShapes Go.WideShapes Go.ChangeAt Go.RowKit Go.Joins
open Go.ChangeMaps (open_string shut_string)
set_option linter.unusedVariables false

theorem probe_ne {a b c d k : Int} (h : ¬ probeF a b c d k = 0) : rttOk a b c d = true ∧ (0 ≤ k ∧ k ≤ 6) ∧ 0 ≤ probeF a b c d k ∧ probeF a b c d k ≤ 320000 := by
  by_cases g : rttOk a b c d = true ∧ inB k 0 6 = true
  · have hk : 0 ≤ k ∧ k ≤ 6 := by have := g.2; simp [inB] at this; exact this
    refine ⟨g.1, hk, ?_⟩
    have := probeN_bd g.1
    simp only [probeF, g, and_self, if_true]
    exact dblK_bd _ (by omega) (by omega) _ (by omega)
  · exact (h (by simp only [probeF, if_neg g])).elim
theorem dblK_mono {m n : Int} (h : m ≤ n) (k : Nat) : dblK m k ≤ dblK n k := by
  induction k with
  | zero => exact h
  | succ k ih => simp only [dblK]; omega
theorem walk (a0 : Option Addr) (len0 cap0 : Nat) (z0 : List Int) (a1 : Option Addr) (len1 cap1 : Nat) (z1 : List Int) (w : World) (w0 : IsRow .u8 w a0 len0 cap0 z0) (w1 : IsRow .u8 w a1 len1 cap1 z1) :
    Calls Try.prog 11 #[.slice a0 len0 cap0, .slice a1 len1 cap1] w fun e w' => e = .returned (.bool true) ∧ Below w.heap.size w w' := by
  unfold IsRow maxLen at w1
  have hm1 : (len1 : Int) ≤ 9223372036854775807 := by rcases w1 with ⟨_, h, _, _⟩ | ⟨_, _, h1, h2, _⟩ <;> omega
  clear w1
  by_cases hb : (1048576 : Int) < (len0 : Int)
  · go_enter Try.func11, Try.ntmps11
    go_wp2
    go_ret
    exact ⟨rfl, Below.refl _ _⟩
  by_cases hb' : (1048576 : Int) < (len1 : Int)
  · go_enter Try.func11, Try.ntmps11
    go_wp2
    go_ret
    exact ⟨rfl, Below.refl _ _⟩
  have HD := Lib.hid (draw_probe w a0 len0 cap0 z0 w0)
  clear w0 hm1
  go_enter Try.func11, Try.ntmps11
  go_wp2_with fail
  refine HD.out.mono ?_
  rintro e w1 ⟨a, b, c, d, k, rfl, ⟨hk1, hk2⟩, hb1⟩
  clear HD
  have B1 := Blk.new w1 #[.int .i64 a, .int .i64 b, .int .i64 c, .int .i64 d] 25
  have T1 := bpush hb1 (Obj.cells #[.int .i64 a, .int .i64 b, .int .i64 c, .int .i64 d] 25)
  have n1 : 0 ≤ (len1 : Int) % 50 := by omega
  have n2 : (len1 : Int) % 50 < 50 := by omega
  by_cases h0 : probeF a b c d k = 0
  · go_wp2_with fail
    refine (probe_impl _ _ _ _ _ _).mono ?_
    rintro e w2 ⟨rfl, hb2⟩
    have B2 := B1.below hb2
    have q2 := B2.lt
    have c20 := B2.cell 0 rfl
    have c21 := B2.cell 1 rfl
    have c22 := B2.cell 2 rfl
    have c23 := B2.cell 3 rfl
    go_wp2_with fail
    refine (probe_spec _ _ _ _ _ _).mono ?_
    rintro e w3 ⟨rfl, hb3⟩
    have B3 := B2.below hb3
    have q3 := B3.lt
    have c30 := B3.cell 0 rfl
    have c31 := B3.cell 1 rfl
    have c32 := B3.cell 2 rfl
    have c33 := B3.cell 3 rfl
    go_wp2_with fail
    go_ret
    exact ⟨rfl, bstep (bstep T1 hb2) hb3⟩
  have E0 : (probeF a b c d k == 0) = false := by simp [h0]
  obtain ⟨hv, hk, hp1, hp2⟩ := probe_ne h0
  by_cases ha : a = 0
  · subst ha
    obtain ⟨rfl, rfl, rfl⟩ := rttOk_a hv rfl
    clear h0 hv
    go_wp2_with fail
    refine (probe_impl _ _ _ _ _ _).mono ?_
    rintro e w2 ⟨rfl, hb2⟩
    have B2 := B1.below hb2
    have q2 := B2.lt
    have c20 := B2.cell 0 rfl
    have c21 := B2.cell 1 rfl
    have c22 := B2.cell 2 rfl
    have c23 := B2.cell 3 rfl
    go_wp2_with fail
    refine (probe_spec _ _ _ _ _ _).mono ?_
    rintro e w3 ⟨rfl, hb3⟩
    have B3 := B2.below hb3
    have q3 := B3.lt
    have c30 := B3.cell 0 rfl
    have c31 := B3.cell 1 rfl
    have c32 := B3.cell 2 rfl
    have c33 := B3.cell 3 rfl
    go_wp2_with fail
    go_ret
    exact ⟨rfl, bstep (bstep T1 hb2) hb3⟩
  · obtain ⟨⟨h1, h2⟩, ⟨h3, h4⟩, ⟨h5, h6⟩, h7, h8⟩ := rttOk_t hv ha
    have ha' : (a == 0) = false := by simp [ha]
    have M : ∀ v : Int, d ≤ v → v ≤ 3999 → probeF a b c d k ≤ probeF a b c v k := by
      intro v hv1 hv2
      have hv' : rttOk a b c v = true := rttOk_mk ⟨⟨h1, h2⟩, ⟨h3, h4⟩, ⟨h5, h6⟩, by omega, by omega⟩
      simp only [probeF, hv, hv', inB_t hk, and_self, if_true]
      apply dblK_mono
      simp only [probeN, ha, if_false]
      split <;> split <;> omega
    by_cases hm : 3999 < d + (len1 : Int) % 50
    · have M1 := M 3999 (by omega) (by omega)
      clear M h0 hv ha hk
      go_wp2_with fail
      refine (probe_impl _ _ _ _ _ _).mono ?_
      rintro e w2 ⟨rfl, hb2⟩
      have B2 := B1.below hb2
      have q2 := B2.lt
      have c20 := B2.cell 0 rfl
      have c21 := B2.cell 1 rfl
      have c22 := B2.cell 2 rfl
      have c23 := B2.cell 3 rfl
      go_wp2_with fail
      refine (probe_spec _ _ _ _ _ _).mono ?_
      rintro e w3 ⟨rfl, hb3⟩
      have B3 := B2.below hb3
      have q3 := B3.lt
      have c30 := B3.cell 0 rfl
      have c31 := B3.cell 1 rfl
      have c32 := B3.cell 2 rfl
      have c33 := B3.cell 3 rfl
      go_wp2_with fail
      refine (probe_impl _ _ _ _ _ _).mono ?_
      rintro e w4 ⟨rfl, hb4⟩
      go_wp2_with fail
      go_ret
      exact ⟨rfl, bstep (bpush (bstep (bstep T1 hb2) hb3) _) hb4⟩
    · have M1 := M (d + (len1 : Int) % 50) (by omega) (by omega)
      clear M h0 hv ha hk
      go_wp2_with fail
      refine (probe_impl _ _ _ _ _ _).mono ?_
      rintro e w2 ⟨rfl, hb2⟩
      have B2 := B1.below hb2
      have q2 := B2.lt
      have c20 := B2.cell 0 rfl
      have c21 := B2.cell 1 rfl
      have c22 := B2.cell 2 rfl
      have c23 := B2.cell 3 rfl
      go_wp2_with fail
      refine (probe_spec _ _ _ _ _ _).mono ?_
      rintro e w3 ⟨rfl, hb3⟩
      have B3 := B2.below hb3
      have q3 := B3.lt
      have c30 := B3.cell 0 rfl
      have c31 := B3.cell 1 rfl
      have c32 := B3.cell 2 rfl
      have c33 := B3.cell 3 rfl
      go_wp2_with fail
      refine (probe_impl _ _ _ _ _ _).mono ?_
      rintro e w4 ⟨rfl, hb4⟩
      go_wp2_with fail
      go_ret
      exact ⟨rfl, bstep (bpush (bstep (bstep T1 hb2) hb3) _) hb4⟩

theorem own : ownKnob Try.prog.godebug = none := by kernel_rfl
theorem laidOut : laidOutB Try.prog = true := by kernel_rfl

set_option maxRecDepth 100000 in
theorem lifted (os : Os) (started : os.Started) (H : Type) (enc : TypeId × Value → H) :
    ReturnsInHanded {} Try.checked os 11 .any (Rows.fnRttProbeVarySpec.pre6 enc Try.prog Try.f11 Rows.fnRttProbeVaryRow.domain false) (Rows.fnRttProbeVarySpec.post enc Try.prog Try.f11 false true false false) := by
  refine returnsInHanded_of_change (C := Try.checked) own started (by kernel_rfl) Try.func11
    (ChangeSpec.witness6 (enc := enc) (C := Try.checked) false ⟨#[], #[.slice none 0 0, .slice none 0 0], []⟩ 8 (by kernel_rfl) (by kernel_rfl) (by kernel_rfl) (by kernel_rfl)) ?_
  intro W base args ds gs before hval0 hW hcnd _
  have hval : ∀ (j : Nat) t v, Try.f11.params[j]? = some t → args[j]? = some v → Value.okWide Try.prog W .any base t v := hval0
  have hW' := hW
  obtain ⟨p, q, hA0, hV, rfl, hfz, hnd⟩ := hW
  have hA : DataW.TrodAll enc Try.prog W 0 (fun _ => true) true Try.f11.params.toList args.toList ds p := hA0
  rw [Try.params11] at hA hval
  obtain ⟨v0, vs0, d0, ds0, p0, q0, hargs, rfl, rfl, h0, r0⟩ := trodAll_cons hA
  obtain ⟨v1, vs1, d1, ds1, p1, q1, rfl, rfl, rfl, h1, r1⟩ := trodAll_cons r0
  obtain ⟨rfl, rfl, rfl⟩ := trodAll_nil r1
  obtain rfl : args = #[v0, v1] := by cases args; simp_all
  obtain ⟨rfl, rfl⟩ := trodVars_none hV
  have k0 := h0
  have lt0 : ∀ x ∈ p0, x.block < W.heap.size := by obtain ⟨m, hm⟩ := k0; exact DataW.trod_lt m _ _ _ hm
  have k1 := h1
  have lt1 : ∀ x ∈ p1, x.block < W.heap.size := by obtain ⟨m, hm⟩ := k1; exact DataW.trod_lt m _ _ _ hm
  obtain ⟨a0, len0, cap0, rfl⟩ := okWide_slice Try.underlying35 (hval 0 35 v0 rfl rfl)
  obtain ⟨z0, w0⟩ : ∃ zs, IsRow .u8 W a0 len0 cap0 zs := by
    obtain ⟨fuel, hf⟩ := h0
    rcases open_ints Try.underlying35 Try.underlying5 (by kernel_rfl) hf with ⟨hcs, _⟩ | ⟨x, l, c, zs, hcs, _, hl, hm, hz, _, hcell, hwz⟩
    · simp [Value.cells] at hcs
      obtain ⟨rfl, rfl, rfl⟩ := hcs
      exact ⟨[], .inl ⟨rfl, rfl, rfl, rfl⟩⟩
    · simp [Value.cells] at hcs
      obtain ⟨rfl, rfl, rfl⟩ := hcs
      exact ⟨zs, .inr ⟨_, rfl, hl, hm, by simpa using hz, hcell, hwz⟩⟩
  obtain ⟨a1, len1, cap1, rfl⟩ := okWide_slice Try.underlying35 (hval 1 35 v1 rfl rfl)
  obtain ⟨z1, w1⟩ : ∃ zs, IsRow .u8 W a1 len1 cap1 zs := by
    obtain ⟨fuel, hf⟩ := h1
    rcases open_ints Try.underlying35 Try.underlying5 (by kernel_rfl) hf with ⟨hcs, _⟩ | ⟨x, l, c, zs, hcs, _, hl, hm, hz, _, hcell, hwz⟩
    · simp [Value.cells] at hcs
      obtain ⟨rfl, rfl, rfl⟩ := hcs
      exact ⟨[], .inl ⟨rfl, rfl, rfl, rfl⟩⟩
    · simp [Value.cells] at hcs
      obtain ⟨rfl, rfl, rfl⟩ := hcs
      exact ⟨zs, .inr ⟨_, rfl, hl, hm, by simpa using hz, hcell, hwz⟩⟩
  clear hA0 hval0
  refine (walk a0 len0 cap0 z0 a1 len1 cap1 z1 W w0 w1).mono fun e W' ⟨he, bel⟩ => ?_
  subst he
  exact ⟨_, rfl, _, _, _, [], _, [], hW', trodAll_mk1 (shut_bool Try.underlying4 _), (trodAll_cons_mk (Below.trod laidOut (by kernel_rfl) (of_decide_eq_true (by kernel_rfl)) k0 bel lt0) (trodAll_cons_mk (Below.trod laidOut (by kernel_rfl) (of_decide_eq_true (by kernel_rfl)) k1 bel lt1) trodAll_mk0)), rfl, bel.frame _, fun h => by cases h⟩

theorem over : Rows.fnRttProbeVaryRow.holds Try.pinned (OpenSpec.ofChange Rows.fnRttProbeVarySpec) :=
  OpenClaim.holds_of_wide 11 Try.f11 rfl rfl rfl rfl rfl rfl rfl ⟨rfl, rfl, rfl, rfl, rfl⟩ rfl rfl rfl rfl rfl (by kernel_rfl) Try.func11 (by kernel_rfl)
    (of_decide_eq_true (by kernel_rfl)) (by unfold Func.isWrapper; first | (rw [if_pos (by decide +kernel)]; kernel_rfl) | (rw [if_neg (by decide +kernel)]; exact ⟨rfl, rfl⟩))
    (fun os started H enc _ => lifted os started H enc)

/-- The given statement. -/
theorem proved : Rows.FnRttProbeVarySaid := over
end Go.Proofs.Ytjgmindnjceofaa.fnRttProbeVary
