/- The program's RegisterValid returns what the reference's returns, for all arguments, and leaves its argument as it was.
   No condition: it holds for every input. -/
import Derived.Test.YtjlaikmilcgmhaaRows
import Derived.WalkKit
import Derived.ProofKit
import Derived.OpenShut
import Derived.ShutString
import Derived.ChangeOld
import Derived.Below
import Derived.Lib.SmallJoins
import Derived.Test.YtjlaikmilcgmhaaGf
import Derived.Test.YtjlaikmilcgmhaaGe
import Derived.Test.YtjlaikmilcgmhaaGc
import Derived.Test.YtjlaikmilcgmhaaGd
namespace Go.Proofs.Ytjlaikmilcgmhaa.fnExactRegisterValid
open Go.ChangeShapes Go.WideShapes Go.ChangeAt Go.RowKit Go.Joins
open Go.ChangeMaps (open_string shut_string)
set_option linter.unusedVariables false

set_option maxHeartbeats 1000000 in
theorem walk (now : Int) (a : Option Addr) (n cap : Nat) (l : List (Int × Int)) (w : World) (hl : l.length = n) (S : Sl 2 w w.heap.size a n (tkG l)) :
    Calls Try.prog 4 #[.agg #[.int .i64 now, .slice a n cap]] w fun e w' => e = .returned (.bool true) ∧ Below w.heap.size w w' := by
  have hn := S.len
  have hb0 := bpush (Below.refl w.heap.size w) (Obj.cells #[.int .i64 now, .slice a n cap] 37)
  have B0 := Blk.new w #[.int .i64 now, .slice a n cap] 37
  by_cases h : (1048576 : Int) < (n : Int)
  · have E : szF 1048576 n = -1 := by unfold szF; rw [if_pos h]
    clear S
    go_enter Try.func4, Try.ntmps4
    go_wp2_with fail
    refine (szReg_c _ _ _ _ _ _ (by omega) (by omega) hn).mono ?_
    rintro e w1 ⟨rfl, hb1⟩
    rw [E]
    go_wp2_with fail
    go_ret
    exact ⟨rfl, bstep hb0 hb1⟩
  have hn' : n ≤ 1048576 := by omega
  have E : szF 1048576 n = 1048576 - n := by unfold szF; rw [if_neg h]
  have HS := Lib.hid S; clear S
  go_enter Try.func4, Try.ntmps4
  go_wp2_with fail
  refine (szReg_c _ _ _ _ _ _ (by omega) (by omega) hn).mono ?_
  rintro e w1 ⟨rfl, hb1⟩
  rw [E]
  have B1 := B0.below hb1
  have hc1 := bstep hb0 hb1
  have c10 := B1.cell 0 rfl
  have c11 := B1.cell 1 rfl
  have S1 := Lib.hid ((HS.out.below hc1).mono hc1.size)
  clear B0 hb0 hb1
  go_wp2_with fail
  refine (toReg_c _ _ _ _ l _ hl hn' S1.out).mono ?_
  rintro e w2 ⟨a2, rfl, hb2, hp2⟩
  have B2 := B1.below hb2
  have hc2 := bstep hc1 hb2
  have c20 := B2.cell 0 rfl
  have c21 := B2.cell 1 rfl
  have S2 := Lib.hid hp2.sl
  clear B1 c10 c11 hb2 hc1
  go_wp2_with fail
  refine (rvalid_spec _ _ _ _ l _ hl S2.out).mono ?_
  rintro e w3 ⟨rfl, hb3⟩
  have B3 := B2.below hb3
  have hc3 := bstep hc2 hb3
  have c30 := B3.cell 0 rfl
  have c31 := B3.cell 1 rfl
  have S3 := Lib.hid ((HS.out.below hc3).mono hc3.size)
  clear B2 c20 c21 hb3 hc2 S2 hp2
  go_wp2_with fail
  refine (toReg_c _ _ _ _ l _ hl hn' S3.out).mono ?_
  rintro e w4 ⟨a4, rfl, hb4, hp4⟩
  have hb5 := bpush (Below.refl w4.heap.size w4) (Obj.cells #[.int .i64 now, .slice a4 n n] 42)
  have B4 := (B3.below hb4).below hb5
  have D4 := Blk.new w4 #[.int .i64 now, .slice a4 n n] 42
  have hp5 := hp4.below hb5
  have hc5 := bstep (bstep hc3 hb4) hb5
  have S5 := Lib.hid hp5.sl
  clear B3 c30 c31 hb4 hc3 S3 hp4
  go_wp2_with fail
  refine (rvalid_impl _ _ _ _ l _ hl S5.out).mono ?_
  rintro e w6 ⟨rfl, hb6⟩
  have B6 := B4.below hb6
  have D6 := D4.below hb6
  have hp6 := hp5.below hb6
  have hc6 := bstep hc5 hb6
  have c60 := B6.cell 0 rfl
  have c61 := B6.cell 1 rfl
  have d60 := D6.cell 0 rfl
  have d61 := D6.cell 1 rfl
  have S6 := Lib.hid (show Sl 2 w6.drew w6.drew.heap.size a n (tkG l) from (HS.out.below (bdrew hc6)).mono hc6.size)
  clear B4 D4 hb6 hb5 hc5 S5 hp5
  go_wp2_with fail
  go_region_law (first | (go_simp; go_at_call 18; with_reducible refine (toReg_c _ _ _ _ l _ hl hn' S6.out).mono ?_; rintro e w7 ⟨a7, rfl, hb7, hp7⟩; have D7 := D6.drew.below hb7; have d70 := D7.cell 0 rfl; have d71 := D7.cell 1 rfl; have T7 := Lib.hid (hp6.drew.below hb7).sl; have U7 := Lib.hid hp7.sl) | (go_simp; go_at_call 20; with_reducible refine (eqReg_c _ _ _ _ _ _ l _ T7.out U7.out).mono ?_; rintro e w8 ⟨rfl, hb8⟩))
  all_goals
    go_wp2_with fail
    go_ret
    exact ⟨rfl, bstep (bstep (bdrew hc6) hb7) hb8⟩

theorem own : ownKnob Try.prog.godebug = none := by kernel_rfl
theorem laidOut : laidOutB Try.prog = true := by kernel_rfl

set_option maxRecDepth 100000 in
theorem lifted (os : Os) (started : os.Started) (H : Type) (enc : TypeId × Value → H) :
    ReturnsInHanded {} Try.checked os 4 .any (Rows.fnExactRegisterValidSpec.pre6 enc Try.prog Try.f4 Rows.fnExactRegisterValidRow.domain false) (Rows.fnExactRegisterValidSpec.post enc Try.prog Try.f4 false true false false) := by
  refine returnsInHanded_of_change (C := Try.checked) own started (by kernel_rfl) Try.func4
    (ChangeSpec.witness6 (enc := enc) (C := Try.checked) false ⟨#[], #[.agg #[.int .i64 0, .slice none 0 0]], []⟩ 8 (by kernel_rfl) (by kernel_rfl) (by kernel_rfl) (by kernel_rfl)) ?_
  intro W base args ds gs before hval0 hW hcnd _
  have hval : ∀ (j : Nat) t v, Try.f4.params[j]? = some t → args[j]? = some v → Value.okWide Try.prog W .any base t v := hval0
  have hW' := hW
  obtain ⟨p, q, hA0, hV, rfl, hfz, hnd⟩ := hW
  have hA : DataW.TrodAll enc Try.prog W 0 (fun _ => true) true Try.f4.params.toList args.toList ds p := hA0
  rw [Try.params4] at hA hval
  obtain ⟨v0, vs0, d0, ds0, p0, q0, hargs, rfl, rfl, h0, r0⟩ := trodAll_cons hA
  obtain ⟨rfl, rfl, rfl⟩ := trodAll_nil r0
  obtain rfl : args = #[v0] := by cases args; simp_all
  obtain ⟨rfl, rfl⟩ := trodVars_none hV
  have k0 := h0
  have lt0 : ∀ x ∈ p0, x.block < W.heap.size := by obtain ⟨m, hm⟩ := k0; exact DataW.trod_lt m _ _ _ hm
  obtain ⟨c0a, c0b, y0a, y0b, m0, rfl, rfl, hp0, hy0a, hy0b⟩ := open_agg2 Try.underlying37 (by kernel_rfl) (by kernel_rfl) (hval 0 37 v0 rfl rfl) h0
  obtain ⟨x0a, e0a, f0a, w0a⟩ := DataW.trod_int Try.underlying3 hy0a
  simp at e0a f0a
  subst e0a
  obtain ⟨a0, n0, q0, l0, e0b, o0, s0⟩ := open_tks Try.underlying35 Try.underlying24 (by kernel_rfl) (by kernel_rfl) rfl rfl Try.underlying3 hy0b
  subst e0b
  clear hA0 hval0
  refine (walk x0a a0 n0 q0 l0 W o0 s0).mono fun e W' ⟨he, bel⟩ => ?_
  subst he
  exact ⟨_, rfl, _, _, _, [], _, [], hW', trodAll_mk1 (shut_bool Try.underlying4 _), (trodAll_cons_mk (Below.trod laidOut (by kernel_rfl) (of_decide_eq_true (by kernel_rfl)) k0 bel lt0) trodAll_mk0), rfl, bel.frame _, fun h => by cases h⟩

theorem over : Rows.fnExactRegisterValidRow.holds Try.pinned (OpenSpec.ofChange Rows.fnExactRegisterValidSpec) :=
  OpenClaim.holds_of_wide 4 Try.f4 rfl rfl rfl rfl rfl rfl rfl ⟨rfl, rfl, rfl, rfl, rfl⟩ rfl rfl rfl rfl rfl (by kernel_rfl) Try.func4 (by kernel_rfl)
    (of_decide_eq_true (by kernel_rfl)) (by unfold Func.isWrapper; first | (rw [if_pos (by decide +kernel)]; kernel_rfl) | (rw [if_neg (by decide +kernel)]; exact ⟨rfl, rfl⟩))
    (fun os started H enc _ => lifted os started H enc)

/-- The given statement. -/
theorem proved : Rows.FnExactRegisterValidSaid := over
end Go.Proofs.Ytjlaikmilcgmhaa.fnExactRegisterValid
