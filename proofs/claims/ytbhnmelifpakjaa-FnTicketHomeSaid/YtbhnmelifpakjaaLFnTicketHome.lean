/- A ticket has one home.
   No condition: it holds for every input. -/
import Derived.Test.YtbhnmelifpakjaaRows
import Derived.WalkKit
import Derived.ProofKit
import Derived.OpenShut
import Derived.ShutString
import Derived.ChangeOld
import Derived.Below
import Derived.Lib.SmallJoins
import Derived.Test.YtbhnmelifpakjaaTj
namespace Go.Proofs.Ytbhnmelifpakjaa.fnTicketHome
open Go.ChangeShapes Go.WideShapes Go.ChangeAt Go.RowKit Go.Joins
open Go.ChangeMaps (open_string shut_string)
set_option linter.unusedVariables false

theorem home_same {n i s m : Int} (h : 0 ≤ homeF n i s) (hm : 0 ≤ m ∧ m ≤ 999) : homeF n i m = homeF n i s ∧ homeF n i s < n ∧ 0 ≤ homeF n i s := by
  by_cases g : inB n 1 4 = true ∧ tkOk i s = true
  · have h1 := tkOk_t g.2
    have h2 : tkOk i m = true := tkOk_mk ⟨h1.1, hm⟩
    have h3 : 1 ≤ n ∧ n ≤ 4 := by have := g.1; simp [inB] at this; exact this
    simp only [homeF, g, h2, and_self, if_true]
    exact ⟨trivial, Int.emod_lt_of_pos _ (by omega), Int.emod_nonneg _ (by omega)⟩
  · simp only [homeF, if_neg g] at h; omega
set_option maxRecDepth 100000 in
theorem walk (a0 : Option Addr) (len0 cap0 : Nat) (z0 : List Int) (a1 : Option Addr) (len1 cap1 : Nat) (z1 : List Int) (w : World) (w0 : IsRow .u8 w a0 len0 cap0 z0) (w1 : IsRow .u8 w a1 len1 cap1 z1) :
    Calls Try.prog 5 #[.slice a0 len0 cap0, .slice a1 len1 cap1] w fun e w' => e = .returned (.bool true) ∧ Below w.heap.size w w' := by
  unfold IsRow maxLen at w1
  have hm1 : (len1 : Int) ≤ 9223372036854775807 := by rcases w1 with ⟨_, h, _, _⟩ | ⟨_, _, h1, h2, _⟩ <;> omega
  clear w1
  by_cases hb : (1048576 : Int) < (len0 : Int)
  · go_enter Try.func5, Try.ntmps5
    go_wp2
    go_ret
    exact ⟨rfl, Below.refl _ _⟩
  by_cases hb' : (1048576 : Int) < (len1 : Int)
  · go_enter Try.func5, Try.ntmps5
    go_wp2
    go_ret
    exact ⟨rfl, Below.refl _ _⟩
  have HD := Lib.hid (draw_home w a0 len0 cap0 z0 w0)
  clear w0 hm1
  go_enter Try.func5, Try.ntmps5
  go_wp2_with fail
  refine HD.out.mono ?_
  rintro e1 w1 ⟨n, i, s, rfl, hb1⟩
  clear HD
  have T1 := bpush hb1 (Obj.cells #[.int .i64 i, .int .i64 s] 25)
  have B1 := Blk.new w1 #[.int .i64 i, .int .i64 s] 25
  have n1 : 0 ≤ (len1 : Int) % 1000 := by omega
  have n2 : (len1 : Int) % 1000 < 1000 := by omega
  go_wp2_with fail
  refine (home_impl _ _ _ _).mono ?_
  rintro e1 w2 ⟨rfl, hb2⟩
  have B2 := B1.below hb2
  have c20 := B2.cell 0 rfl
  have c21 := B2.cell 1 rfl
  go_wp2_with fail
  refine (home_spec _ _ _ _).mono ?_
  rintro e1 w3 ⟨rfl, hb3⟩
  have B3 := B2.below hb3
  have c30 := B3.cell 0 rfl
  have c31 := B3.cell 1 rfl
  have q3 := B3.lt
  clear B1 B2 B3
  by_cases h0 : homeF n i s < 0
  · go_wp2_with fail
    go_ret
    exact ⟨rfl, bstep (bstep T1 hb2) hb3⟩
  · have h0' : 0 ≤ homeF n i s := by omega
    obtain ⟨E1, E2, E3⟩ := home_same h0' ⟨n1, (by omega : (len1 : Int) % 1000 ≤ 999)⟩
    clear h0
    go_wp2_with fail
    refine (home_impl _ _ _ _).mono ?_
    rintro e1 w4 ⟨rfl, hb4⟩
    go_wp2_with fail
    go_ret
    exact ⟨rfl, bstep (bpush (bstep (bstep T1 hb2) hb3) _) hb4⟩

theorem own : ownKnob Try.prog.godebug = none := by kernel_rfl
theorem laidOut : laidOutB Try.prog = true := by kernel_rfl

set_option maxRecDepth 100000 in
theorem lifted (os : Os) (started : os.Started) (H : Type) (enc : TypeId × Value → H) :
    ReturnsInHanded {} Try.checked os 5 .any (Rows.fnTicketHomeSpec.pre6 enc Try.prog Try.f5 Rows.fnTicketHomeRow.domain false) (Rows.fnTicketHomeSpec.post enc Try.prog Try.f5 false true false false) := by
  refine returnsInHanded_of_change (C := Try.checked) own started (by kernel_rfl) Try.func5
    (ChangeSpec.witness6 (enc := enc) (C := Try.checked) false ⟨#[], #[.slice none 0 0, .slice none 0 0], []⟩ 8 (by kernel_rfl) (by kernel_rfl) (by kernel_rfl) (by kernel_rfl)) ?_
  intro W base args ds gs before hval0 hW hcnd _
  have hval : ∀ (j : Nat) t v, Try.f5.params[j]? = some t → args[j]? = some v → Value.okWide Try.prog W .any base t v := hval0
  have hW' := hW
  obtain ⟨p, q, hA0, hV, rfl, hfz, hnd⟩ := hW
  have hA : DataW.TrodAll enc Try.prog W 0 (fun _ => true) true Try.f5.params.toList args.toList ds p := hA0
  rw [Try.params5] at hA hval
  obtain ⟨v0, vs0, d0, ds0, p0, q0, hargs, rfl, rfl, h0, r0⟩ := trodAll_cons hA
  obtain ⟨v1, vs1, d1, ds1, p1, q1, rfl, rfl, rfl, h1, r1⟩ := trodAll_cons r0
  obtain ⟨rfl, rfl, rfl⟩ := trodAll_nil r1
  obtain rfl : args = #[v0, v1] := by cases args; simp_all
  obtain ⟨rfl, rfl⟩ := trodVars_none hV
  have k0 := h0
  have lt0 : ∀ x ∈ p0, x.block < W.heap.size := by obtain ⟨m, hm⟩ := k0; exact DataW.trod_lt m _ _ _ hm
  have k1 := h1
  have lt1 : ∀ x ∈ p1, x.block < W.heap.size := by obtain ⟨m, hm⟩ := k1; exact DataW.trod_lt m _ _ _ hm
  obtain ⟨a0, len0, cap0, rfl⟩ := okWide_slice Try.underlying28 (hval 0 28 v0 rfl rfl)
  obtain ⟨z0, w0⟩ : ∃ zs, IsRow .u8 W a0 len0 cap0 zs := by
    obtain ⟨fuel, hf⟩ := h0
    rcases open_ints Try.underlying28 Try.underlying5 (by kernel_rfl) hf with ⟨hcs, _⟩ | ⟨x, l, c, zs, hcs, _, hl, hm, hz, _, hcell, hwz⟩
    · simp [Value.cells] at hcs
      obtain ⟨rfl, rfl, rfl⟩ := hcs
      exact ⟨[], .inl ⟨rfl, rfl, rfl, rfl⟩⟩
    · simp [Value.cells] at hcs
      obtain ⟨rfl, rfl, rfl⟩ := hcs
      exact ⟨zs, .inr ⟨_, rfl, hl, hm, by simpa using hz, hcell, hwz⟩⟩
  obtain ⟨a1, len1, cap1, rfl⟩ := okWide_slice Try.underlying28 (hval 1 28 v1 rfl rfl)
  obtain ⟨z1, w1⟩ : ∃ zs, IsRow .u8 W a1 len1 cap1 zs := by
    obtain ⟨fuel, hf⟩ := h1
    rcases open_ints Try.underlying28 Try.underlying5 (by kernel_rfl) hf with ⟨hcs, _⟩ | ⟨x, l, c, zs, hcs, _, hl, hm, hz, _, hcell, hwz⟩
    · simp [Value.cells] at hcs
      obtain ⟨rfl, rfl, rfl⟩ := hcs
      exact ⟨[], .inl ⟨rfl, rfl, rfl, rfl⟩⟩
    · simp [Value.cells] at hcs
      obtain ⟨rfl, rfl, rfl⟩ := hcs
      exact ⟨zs, .inr ⟨_, rfl, hl, hm, by simpa using hz, hcell, hwz⟩⟩
  clear hA0 hval0
  refine (walk a0 len0 cap0 z0 a1 len1 cap1 z1 W w0 w1).mono fun e W' ⟨he, bel⟩ => ?_
  subst he
  exact ⟨_, rfl, _, _, _, [], _, [], hW', trodAll_mk1 (shut_bool Try.underlying4 _), (trodAll_cons_mk (Below.trod laidOut (by kernel_rfl) (of_decide_eq_true (by kernel_rfl)) k0 bel lt0) (trodAll_cons_mk (Below.trod laidOut (by kernel_rfl) (of_decide_eq_true (by kernel_rfl)) k1 bel lt1) trodAll_mk0)), rfl, bel.frame _, fun h => by cases h⟩

theorem over : Rows.fnTicketHomeRow.holds Try.pinned (OpenSpec.ofChange Rows.fnTicketHomeSpec) :=
  OpenClaim.holds_of_wide 5 Try.f5 rfl rfl rfl rfl rfl rfl rfl ⟨rfl, rfl, rfl, rfl, rfl⟩ rfl rfl rfl rfl rfl (by kernel_rfl) Try.func5 (by kernel_rfl)
    (of_decide_eq_true (by kernel_rfl)) (by unfold Func.isWrapper; first | (rw [if_pos (by decide +kernel)]; kernel_rfl) | (rw [if_neg (by decide +kernel)]; exact ⟨rfl, rfl⟩))
    (fun os started H enc _ => lifted os started H enc)

/-- The given statement. -/
theorem proved : Rows.FnTicketHomeSaid := over
end Go.Proofs.Ytbhnmelifpakjaa.fnTicketHome
