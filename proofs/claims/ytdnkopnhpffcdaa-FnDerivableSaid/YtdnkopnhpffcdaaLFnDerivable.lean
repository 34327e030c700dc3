/- Derivable atoms are listed.
   No condition: it holds for every input. -/
import Derived.Test.YtdnkopnhpffcdaaRows
import Derived.WalkKit
import Derived.ProofKit
import Derived.OpenShut
import Derived.ShutString
import Derived.ChangeOld
import Derived.Below
import Derived.Lib.SmallJoins
import Derived.Test.YtdnkopnhpffcdaaVm
namespace Go.Proofs.Ytdnkopnhpffcdaa.fnDerivable
open Go.ChangeShapes Go.WideShapes Go.ChangeAt Go.RowKit Go.Joins
open Go.ChangeMaps (open_string shut_string)
set_option linter.unusedVariables false

set_option maxHeartbeats 4000000 in
theorem walk (a0 : Option Addr) (len0 cap0 : Nat) (z0 : List Int) (w : World) (w0 : IsRow .u8 w a0 len0 cap0 z0) :
    Calls Try.prog 7 #[.slice a0 len0 cap0] w fun e w' => e = .returned (.bool true) ∧ Below w.heap.size w w' := by
  by_cases hb : (1048576 : Int) < (len0 : Int)
  · go_enter Try.func7, Try.ntmps7
    go_wp2
    go_ret
    exact ⟨rfl, Below.refl _ _⟩
  have HD := Lib.hid (draw_drv w a0 len0 cap0 z0 w0)
  clear w0
  go_enter Try.func7, Try.ntmps7
  go_wp2_with fail
  refine HD.out.mono ?_
  rintro e1 w1 ⟨bs, ab, c, L, ak, ck, x, rfl, hb1, hl⟩
  have HL := Lib.hid hl
  have hl10 := hl.1
  have hL4 := hl.2.1
  have D1 := Below.refl w1.heap.size w1
  clear HD hl
  have HI := Lib.hid (fun (w' : World) (D : Below w1.heap.size w1 w') => drv_impl ab ak bs.length c L.length ck bs L x w' (lies_ns HL.out D) rfl (lies_kn HL.out D))
  have HP := Lib.hid (fun (w' : World) (D : Below w1.heap.size w1 w') => drv_spec ab ak bs.length c L.length ck bs L x w' (lies_ns HL.out D) rfl (lies_kn HL.out D))
  have HT := Lib.hid (fun (w' : World) (D : Below w1.heap.size w1 w') => derL_c ab ak bs.length c L.length ck bs L w' (lies_ns HL.out D) rfl (lies_kn HL.out D))
  have E := Lib.hid (drvOk_mem (bs := bs) (kn := L) (a := x))
  have hdl := derL_len bs L
  obtain ⟨b, hb⟩ : ∃ b, drvOk bs L x = b := ⟨_, rfl⟩
  rw [hb] at HI HP E
  clear hb
  go_wp2_with fail
  refine (HI.out w1 D1).mono ?_
  rintro e1 w2 ⟨rfl, hb2⟩
  have D2 := bstep D1 hb2
  go_wp2_with fail
  refine (HP.out w2 D2).mono ?_
  rintro e1 w3 ⟨rfl, hb3⟩
  have D3 := bstep D2 hb3
  cases b
  all_goals
    go_wp2_with fail
    refine (HT.out w3 D3).mono ?_
    rintro e1 w4 ⟨aT, cT, rfl, hb4, ownT⟩
    have D4 := bstep D3 hb4
    have HH := Lib.hid (hasI_c aT _ cT (derL bs L) x w4 rfl (goti_sl ownT (by omega)))
    rw [← E.out] at HH
    clear ownT
    go_wp2_with fail
    refine HH.out.mono ?_
    rintro e1 w5 ⟨rfl, rfl⟩
    go_wp2_with fail
    go_ret
    exact ⟨rfl, bstep hb1 D4⟩

theorem own : ownKnob Try.prog.godebug = none := by kernel_rfl
theorem laidOut : laidOutB Try.prog = true := by kernel_rfl

set_option maxRecDepth 100000 in
theorem lifted (os : Os) (started : os.Started) (H : Type) (enc : TypeId × Value → H) :
    ReturnsInHanded {} Try.checked os 7 .any (Rows.fnDerivableSpec.pre6 enc Try.prog Try.f7 Rows.fnDerivableRow.domain false) (Rows.fnDerivableSpec.post enc Try.prog Try.f7 false true false false) := by
  refine returnsInHanded_of_change (C := Try.checked) own started (by kernel_rfl) Try.func7
    (ChangeSpec.witness6 (enc := enc) (C := Try.checked) false ⟨#[], #[.slice none 0 0], []⟩ 8 (by kernel_rfl) (by kernel_rfl) (by kernel_rfl) (by kernel_rfl)) ?_
  intro W base args ds gs before hval0 hW hcnd _
  have hval : ∀ (j : Nat) t v, Try.f7.params[j]? = some t → args[j]? = some v → Value.okWide Try.prog W .any base t v := hval0
  have hW' := hW
  obtain ⟨p, q, hA0, hV, rfl, hfz, hnd⟩ := hW
  have hA : DataW.TrodAll enc Try.prog W 0 (fun _ => true) true Try.f7.params.toList args.toList ds p := hA0
  rw [Try.params7] at hA hval
  obtain ⟨v0, vs0, d0, ds0, p0, q0, hargs, rfl, rfl, h0, r0⟩ := trodAll_cons hA
  obtain ⟨rfl, rfl, rfl⟩ := trodAll_nil r0
  obtain rfl : args = #[v0] := by cases args; simp_all
  obtain ⟨rfl, rfl⟩ := trodVars_none hV
  have k0 := h0
  have lt0 : ∀ x ∈ p0, x.block < W.heap.size := by obtain ⟨m, hm⟩ := k0; exact DataW.trod_lt m _ _ _ hm
  obtain ⟨a0, len0, cap0, rfl⟩ := okWide_slice Try.underlying22 (hval 0 22 v0 rfl rfl)
  obtain ⟨z0, w0⟩ : ∃ zs, IsRow .u8 W a0 len0 cap0 zs := by
    obtain ⟨fuel, hf⟩ := h0
    rcases open_ints Try.underlying22 Try.underlying5 (by kernel_rfl) hf with ⟨hcs, _⟩ | ⟨x, l, c, zs, hcs, _, hl, hm, hz, _, hcell, hwz⟩
    · simp [Value.cells] at hcs
      obtain ⟨rfl, rfl, rfl⟩ := hcs
      exact ⟨[], .inl ⟨rfl, rfl, rfl, rfl⟩⟩
    · simp [Value.cells] at hcs
      obtain ⟨rfl, rfl, rfl⟩ := hcs
      exact ⟨zs, .inr ⟨_, rfl, hl, hm, by simpa using hz, hcell, hwz⟩⟩
  clear hA0 hval0
  refine (walk a0 len0 cap0 z0 W w0).mono fun e W' ⟨he, bel⟩ => ?_
  subst he
  exact ⟨_, rfl, _, _, _, [], _, [], hW', trodAll_mk1 (shut_bool Try.underlying4 _), (trodAll_cons_mk (Below.trod laidOut (by kernel_rfl) (of_decide_eq_true (by kernel_rfl)) k0 bel lt0) trodAll_mk0), rfl, bel.frame _, fun h => by cases h⟩

theorem over : Rows.fnDerivableRow.holds Try.pinned (OpenSpec.ofChange Rows.fnDerivableSpec) :=
  OpenClaim.holds_of_wide 7 Try.f7 rfl rfl rfl rfl rfl rfl rfl ⟨rfl, rfl, rfl, rfl, rfl⟩ rfl rfl rfl rfl rfl (by kernel_rfl) Try.func7 (by kernel_rfl)
    (of_decide_eq_true (by kernel_rfl)) (by unfold Func.isWrapper; first | (rw [if_pos (by decide +kernel)]; kernel_rfl) | (rw [if_neg (by decide +kernel)]; exact ⟨rfl, rfl⟩))
    (fun os started H enc _ => lifted os started H enc)

/-- The given statement. -/
theorem proved : Rows.FnDerivableSaid := over
end Go.Proofs.Ytdnkopnhpffcdaa.fnDerivable
