/- The program's LossValid returns what the reference's returns, for all arguments, and leaves its argument as it was.
   No condition: it holds for every input. -/
import Derived.Test.YtbhnmelifpakjaaRows
import Derived.WalkKit
import Derived.ProofKit
import Derived.OpenShut
import Derived.ShutString
import Derived.ChangeOld
import Derived.Below
import Derived.Lib.SmallJoins
import Derived.Test.YtbhnmelifpakjaaLo
import Derived.Test.YtbhnmelifpakjaaLc
import Derived.Test.YtbhnmelifpakjaaLw
import Derived.Test.YtbhnmelifpakjaaLx
namespace Go.Proofs.Ytbhnmelifpakjaa.fnExactLossValid
open Go.ChangeShapes Go.WideShapes Go.ChangeAt Go.RowKit Go.Joins
open Go.ChangeMaps (open_string shut_string)
set_option linter.unusedVariables false

theorem pks_sl {w : World} {b : Nat} {l : List (Int × Int × Int)} {n : Nat} (hl : l.length = n) (hn : n ≤ 9223372036854775807) (h : Pks w b l) : Sl 3 w w.heap.size (some ⟨b, 0, none⟩) n (pkG l) := by
  subst hl
  obtain ⟨cs, hB, _, _⟩ := id h
  exact (h.sl hn).mono hB.lt
theorem pks_drew {w : World} {b : Nat} {l : List (Int × Int × Int)} (h : Pks w b l) : Pks w.drew b l := h
set_option maxHeartbeats 1000000 in
theorem walk (nx lg : Int) (a : Option Addr) (n cap : Nat) (l : List (Int × Int × Int)) (w : World) (hl : l.length = n) (S : Sl 3 w w.heap.size a n (pkG l)) :
    Calls Try.prog 7 #[.agg #[.int .i64 nx, .slice a n cap, .int .i64 lg]] w fun e w' => e = .returned (.bool true) ∧ Below w.heap.size w w' := by
  have hn := S.1
  have hb0 := bpush (Below.refl w.heap.size w) (Obj.cells #[.int .i64 nx, .slice a n cap, .int .i64 lg] 44)
  have B0 := Blk.new w #[.int .i64 nx, .slice a n cap, .int .i64 lg] 44
  by_cases h : (1048576 : Int) < (n : Int)
  · have E : szF 1048576 n = -1 := by unfold szF; rw [if_pos h]
    clear S
    go_enter Try.func7, Try.ntmps7
    go_wp2_with fail
    refine (szLoss_c _ _ _ _ _ _ _ (by omega) (by omega) hn).mono ?_
    rintro e w1 ⟨rfl, hb1⟩
    rw [E]
    go_wp2_with fail
    go_ret
    exact ⟨rfl, bstep hb0 hb1⟩
  have hn' : n ≤ 1048576 := by omega
  have E : szF 1048576 n = 1048576 - n := by unfold szF; rw [if_neg h]
  have HS := Lib.hid S; clear S
  go_enter Try.func7, Try.ntmps7
  go_wp2_with fail
  refine (szLoss_c _ _ _ _ _ _ _ (by omega) (by omega) hn).mono ?_
  rintro e w1 ⟨rfl, hb1⟩
  rw [E]
  have B1 := B0.below hb1
  have hc1 := bstep hb0 hb1
  have c10 := B1.cell 0 rfl
  have c11 := B1.cell 1 rfl
  have c12 := B1.cell 2 rfl
  have S1 := Lib.hid ((HS.out.below hc1).mono hc1.size)
  clear B0 hb0 hb1
  go_wp2_with fail
  refine (toLoss_c _ _ _ _ _ l _ hl hn' S1.out).mono ?_
  rintro e w2 ⟨b2, rfl, hb2, hB2, hp2⟩
  have B2 := B1.below hb2
  have hc2 := bstep hc1 hb2
  have c20 := B2.cell 0 rfl
  have c21 := B2.cell 1 rfl
  have c22 := B2.cell 2 rfl
  have S2 := Lib.hid (pks_sl hl hn hp2)
  clear B1 c10 c11 c12 hb2 hc1
  go_wp2_with fail
  refine (lvalid_spec _ _ _ _ _ l _ hl S2.out).mono ?_
  rintro e w3 ⟨rfl, hb3⟩
  have B3 := B2.below hb3
  have hc3 := bstep hc2 hb3
  have c30 := B3.cell 0 rfl
  have c31 := B3.cell 1 rfl
  have c32 := B3.cell 2 rfl
  have S3 := Lib.hid ((HS.out.below hc3).mono hc3.size)
  clear B2 c20 c21 c22 hb3 hc2 S2 hp2
  go_wp2_with fail
  refine (toLoss_c _ _ _ _ _ l _ hl hn' S3.out).mono ?_
  rintro e w4 ⟨b4, rfl, hb4, hB4, hp4⟩
  have hb5 := bpush (Below.refl w4.heap.size w4) (Obj.cells #[.int .i64 nx, .slice (some ⟨b4, 0, none⟩) n n, .int .i64 lg] 31)
  have B4 := (B3.below hb4).below hb5
  have D4 := Blk.new w4 #[.int .i64 nx, .slice (some ⟨b4, 0, none⟩) n n, .int .i64 lg] 31
  have hp5 := hp4.below hb5
  have hc5 := bstep (bstep hc3 hb4) hb5
  have S5 := Lib.hid (pks_sl hl hn hp5)
  clear B3 c30 c31 c32 hb4 hc3 S3 hp4
  go_wp2_with fail
  refine (lvalid_impl _ _ _ _ _ l _ hl S5.out).mono ?_
  rintro e w6 ⟨rfl, hb6⟩
  have B6 := B4.below hb6
  have D6 := D4.below hb6
  have hp6 := hp5.below hb6
  have hc6 := bstep hc5 hb6
  have c60 := B6.cell 0 rfl
  have c61 := B6.cell 1 rfl
  have c62 := B6.cell 2 rfl
  have d60 := D6.cell 0 rfl
  have d61 := D6.cell 1 rfl
  have d62 := D6.cell 2 rfl
  have S6 := Lib.hid (show Sl 3 w6.drew w6.drew.heap.size a n (pkG l) from (HS.out.below (bdrew hc6)).mono hc6.size)
  clear B4 D4 hb6 hb5 hc5 S5 hp5
  go_wp2_with fail
  go_region_law (first | (go_simp; go_at_call 22; with_reducible refine (toLoss_c _ _ _ _ _ l _ hl hn' S6.out).mono ?_; rintro e w7 ⟨b7, rfl, hb7, hB7, hp7⟩; have D7 := D6.drew.below hb7; have d70 := D7.cell 0 rfl; have d71 := D7.cell 1 rfl; have d72 := D7.cell 2 rfl; have T7 := Lib.hid (pks_sl hl hn ((pks_drew hp6).below hb7)); have U7 := Lib.hid (pks_sl hl hn hp7)) | (go_simp; go_at_call 17; with_reducible refine (eqLoss_c _ _ _ _ _ _ _ l _ T7.out U7.out).mono ?_; rintro e w8 ⟨rfl, hb8⟩))
  all_goals
    go_wp2_with fail
    go_ret
    exact ⟨rfl, bstep (bstep (bdrew hc6) hb7) hb8⟩

theorem own : ownKnob Try.prog.godebug = none := by kernel_rfl
theorem laidOut : laidOutB Try.prog = true := by kernel_rfl

set_option maxRecDepth 100000 in
theorem lifted (os : Os) (started : os.Started) (H : Type) (enc : TypeId × Value → H) :
    ReturnsInHanded {} Try.checked os 7 .any (Rows.fnExactLossValidSpec.pre6 enc Try.prog Try.f7 Rows.fnExactLossValidRow.domain false) (Rows.fnExactLossValidSpec.post enc Try.prog Try.f7 false true false false) := by
  refine returnsInHanded_of_change (C := Try.checked) own started (by kernel_rfl) Try.func7
    (ChangeSpec.witness6 (enc := enc) (C := Try.checked) false ⟨#[], #[.agg #[.int .i64 0, .slice none 0 0, .int .i64 0]], []⟩ 8 (by kernel_rfl) (by kernel_rfl) (by kernel_rfl) (by kernel_rfl)) ?_
  intro W base args ds gs before hval0 hW hcnd _
  have hval : ∀ (j : Nat) t v, Try.f7.params[j]? = some t → args[j]? = some v → Value.okWide Try.prog W .any base t v := hval0
  have hW' := hW
  obtain ⟨p, q, hA0, hV, rfl, hfz, hnd⟩ := hW
  have hA : DataW.TrodAll enc Try.prog W 0 (fun _ => true) true Try.f7.params.toList args.toList ds p := hA0
  rw [Try.params7] at hA hval
  obtain ⟨v0, vs0, d0, ds0, p0, q0, hargs, rfl, rfl, h0, r0⟩ := trodAll_cons hA
  obtain ⟨rfl, rfl, rfl⟩ := trodAll_nil r0
  obtain rfl : args = #[v0] := by cases args; simp_all
  obtain ⟨rfl, rfl⟩ := trodVars_none hV
  have k0 := h0
  have lt0 : ∀ x ∈ p0, x.block < W.heap.size := by obtain ⟨m, hm⟩ := k0; exact DataW.trod_lt m _ _ _ hm
  obtain ⟨c0a, c0b, c0c, y0a, y0b, y0c, m0, rfl, rfl, hp0, hy0a, hy0b, hy0c⟩ := open_agg3 Try.underlying44 (by kernel_rfl) (by kernel_rfl) (hval 0 44 v0 rfl rfl) h0
  obtain ⟨x0a, e0a, f0a, w0a⟩ := DataW.trod_int Try.underlying3 hy0a
  simp at e0a f0a
  subst e0a
  obtain ⟨x0c, e0c, f0c, w0c⟩ := DataW.trod_int Try.underlying3 hy0c
  simp at e0c f0c
  subst e0c
  obtain ⟨a0, n0, q0, l0, e0b, o0, s0⟩ := open_pks Try.underlying42 Try.underlying65 (by kernel_rfl) (by kernel_rfl) rfl rfl rfl Try.underlying3 hy0b
  subst e0b
  clear hA0 hval0
  refine (walk x0a x0c a0 n0 q0 l0 W o0 s0).mono fun e W' ⟨he, bel⟩ => ?_
  subst he
  exact ⟨_, rfl, _, _, _, [], _, [], hW', trodAll_mk1 (shut_bool Try.underlying4 _), (trodAll_cons_mk (Below.trod laidOut (by kernel_rfl) (of_decide_eq_true (by kernel_rfl)) k0 bel lt0) trodAll_mk0), rfl, bel.frame _, fun h => by cases h⟩

theorem over : Rows.fnExactLossValidRow.holds Try.pinned (OpenSpec.ofChange Rows.fnExactLossValidSpec) :=
  OpenClaim.holds_of_wide 7 Try.f7 rfl rfl rfl rfl rfl rfl rfl ⟨rfl, rfl, rfl, rfl, rfl⟩ rfl rfl rfl rfl rfl (by kernel_rfl) Try.func7 (by kernel_rfl)
    (of_decide_eq_true (by kernel_rfl)) (by unfold Func.isWrapper; first | (rw [if_pos (by decide +kernel)]; kernel_rfl) | (rw [if_neg (by decide +kernel)]; exact ⟨rfl, rfl⟩))
    (fun os started H enc _ => lifted os started H enc)

/-- The given statement. -/
theorem proved : Rows.FnExactLossValidSaid := over
end Go.Proofs.Ytbhnmelifpakjaa.fnExactLossValid
