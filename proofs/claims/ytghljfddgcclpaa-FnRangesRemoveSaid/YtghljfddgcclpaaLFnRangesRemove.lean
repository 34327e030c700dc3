/- Removing numbers removes exactly these.
   No condition: it holds for every input. -/
import Derived.Test.YtghljfddgcclpaaRows
import Derived.WalkKit
import Derived.ProofKit
import Derived.OpenShut
import Derived.ShutString
import Derived.ChangeOld
import Derived.Below
import Derived.Lib.SmallJoins
import Derived.Test.YtghljfddgcclpaaYe
import Derived.Test.YtghljfddgcclpaaYf
import Derived.Test.YtghljfddgcclpaaYh
namespace Go.Proofs.Ytghljfddgcclpaa.fnRangesRemove
open Go.ChangeShapes Go.WideShapes Go.ChangeAt Go.RowKit Go.Joins
open Go.ChangeMaps (open_string shut_string)
set_option linter.unusedVariables false

set_option maxHeartbeats 4000000 in
theorem walk (a0 : Option Addr) (len0 cap0 : Nat) (z0 : List Int) (w : World) (w0 : IsRow .u8 w a0 len0 cap0 z0) :
    Calls Try.prog 3 #[.slice a0 len0 cap0] w fun e w' => e = .returned (.bool true) ∧ Below w.heap.size w w' := by
  by_cases hb : (1048576 : Int) < (len0 : Int)
  · go_enter Try.func3, Try.ntmps3
    go_wp2
    go_ret
    exact ⟨rfl, Below.refl _ _⟩
  have HD := Lib.hid (draw_rem w a0 len0 cap0 z0 w0)
  clear w0
  go_enter Try.func3, Try.ntmps3
  go_wp2_with fail
  refine HD.out.mono ?_
  rintro e1 w1 ⟨l, sa, c, low, high, rfl, hl20, hx, hy, hb1, S1⟩
  clear HD
  have HI := Lib.hid (rremove_impl low high sa l.length c l w1 rfl hx hy S1)
  have HP := Lib.hid (fun (w' : World) (h : Below w1.heap.size w1 w') => rremove_spec low high sa l.length c l w' rfl hx hy ((S1.below h).mono h.size))
  have HS := Lib.hid S1
  obtain ⟨R, hR⟩ : ∃ x, x = remS l low high := ⟨_, rfl⟩
  obtain ⟨V, hV⟩ : ∃ x, x = remOk l low high := ⟨_, rfl⟩
  rw [← hR, ← hV] at HI HP
  have HR := Lib.hid hR
  have HV := Lib.hid hV
  clear hR hV hx hy S1
  go_wp2_with fail
  refine HI.out.mono ?_
  rintro e2 w2 ⟨aO, cO, rfl, hn2, SO2⟩
  clear HI
  go_wp2_with fail
  refine (HP.out _ hn2).mono ?_
  rintro e3 w3 ⟨aP, cP, rfl, hn3, SP3⟩
  have hn13 := bstep hn2 hn3
  have SO3 := (SO2.below hn3).mono hn3.size
  have HSa := Lib.hid (fun (w' : World) (h : Below w3.heap.size w3 w') => sameRanges_c aO aP R.length cO cP R w' ((SO3.below h).mono h.size) ((SP3.below h).mono h.size))
  have HO := Lib.hid SO3
  clear HP hn2 SO2 hn3 SP3 SO3
  have hb3 := bstep hb1 hn13
  have HN := Lib.hid hn13
  have hr3 := Below.refl w3.heap.size w3
  clear hb1 hn13
  cases V
  · go_wp2_with (go_at_call 8; first | (with_reducible refine (HSa.out _ hr3).mono ?_; rintro e4 w4 ⟨rfl, hb4⟩) | (with_reducible refine (HSa.out _ hb4).mono ?_; rintro e5 w5 ⟨rfl, hb5⟩))
    go_ret
    exact ⟨rfl, bstep hb3 (hb4.trans (hb5.mono hb4.size))⟩
  obtain ⟨hv, hsp, hS, hvR⟩ := rem_ok HV.out.symm
  rw [hS] at HR
  obtain ⟨h01, h02, h03⟩ := hsp
  clear hS
  have HQ := Lib.hid (fun n => rem_has_ok HV.out.symm n)
  rw [← HR.out] at HQ hvR
  have HvR := Lib.hid hvR
  clear hv hvR
  go_wp2_with (first | (go_at_call 8; refine (HSa.out _ hr3).mono ?_; rintro e4 w4 ⟨rfl, hb4⟩) | (go_at_call 9; refine (sample_c _).mono ?_; rintro e5 w5 ⟨aM, cM, xs, rfl, hxs, hb5, SM5⟩))
  have hb35 := bstep hb4 hb5
  have HSM := Lib.hid SM5
  have HB := Lib.hid (bstep hb3 hb35)
  have HB3 := Lib.hid hb35
  have hr5 := Below.refl w5.heap.size w5
  clear hb4 hb5 SM5 hb3 hr3 hb35
  go_loopw [11, 58] (fun s i wr => ∃ k : Nat, k ≤ xs.length ∧ i = .int .i64 k ∧ Below w5.heap.size w5 wr) (fun _ i _ => xs.length - (intOf i).toNat)
  case atStart => exact ⟨0, by omega, rfl, hr5⟩
  case round =>
    clear hr5
    obtain ⟨k, hk, rfl, hbk⟩ := hrel
    by_cases hlt : k < xs.length
    · have hki : (k : Int) < (xs.length : Int) := by omega
      obtain ⟨b, off, rfl, hB, hcl⟩ := (HSM.out.below hbk).at hlt
      have x0 := hcl k hlt 0 (by omega)
      obtain ⟨n0, hn0⟩ : ∃ p, xs.getD k 0 = p := ⟨_, rfl⟩
      simp only [inG, Nat.add_zero, Nat.mul_one, hn0] at x0
      have hb3k := HB3.out.trans (hbk.mono HB3.out.size)
      have hb1k := HN.out.trans (hb3k.mono HN.out.size)
      have HX := Lib.hid (rhas_c n0 aO R.length cO R wr rfl ((HO.out.below hb3k).mono hb3k.size))
      have HY := Lib.hid (fun (w' : World) (h : Below wr.heap.size wr w') => rhas_c n0 sa l.length c l w' rfl (((HS.out.below hb1k).mono hb1k.size |>.below h).mono h.size))
      have hq := HQ.out n0
      obtain ⟨X, hX⟩ : ∃ b, (rOk R && hasR R n0) = b := ⟨_, rfl⟩
      obtain ⟨Y, hY⟩ : ∃ b, (rOk l && hasR l n0) = b := ⟨_, rfl⟩
      rw [hX] at HX
      rw [hY] at HY
      rw [hX, hY] at hq
      clear hcl hn0 hb3k hb1k hX hY
      cases Y
      · have : X = false := by rw [hq]; rfl
        subst this
        clear hq
        go_wp2_with (go_at_call 10; first | (with_reducible refine HX.out.mono ?_; rintro ex wx ⟨rfl, hbx⟩) | (with_reducible refine (HY.out _ hbx).mono ?_; rintro ey wy ⟨rfl, hby⟩))
        go_roundw
        case rel => exact ⟨k + 1, by omega, by go_num, bstep (bstep hbk hbx) hby⟩
        case measure => simp [intOf]; omega
      · by_cases c1 : n0 < low
        · have : X = true := by rw [hq, decide_eq_true c1]; rfl
          subst this
          clear hq
          go_wp2_with (go_at_call 10; first | (with_reducible refine HX.out.mono ?_; rintro ex wx ⟨rfl, hbx⟩) | (with_reducible refine (HY.out _ hbx).mono ?_; rintro ey wy ⟨rfl, hby⟩))
          go_roundw
          case rel => exact ⟨k + 1, by omega, by go_num, bstep (bstep hbk hbx) hby⟩
          case measure => simp [intOf]; omega
        · by_cases c2 : high < n0
          · have : X = true := by rw [hq, decide_eq_false c1, decide_eq_true c2]; rfl
            subst this
            clear hq
            go_wp2_with (go_at_call 10; first | (with_reducible refine HX.out.mono ?_; rintro ex wx ⟨rfl, hbx⟩) | (with_reducible refine (HY.out _ hbx).mono ?_; rintro ey wy ⟨rfl, hby⟩))
            go_roundw
            case rel => exact ⟨k + 1, by omega, by go_num, bstep (bstep hbk hbx) hby⟩
            case measure => simp [intOf]; omega
          · have : X = false := by rw [hq, decide_eq_false c1, decide_eq_false c2]; rfl
            subst this
            clear hq
            go_wp2_with (go_at_call 10; first | (with_reducible refine HX.out.mono ?_; rintro ex wx ⟨rfl, hbx⟩) | (with_reducible refine (HY.out _ hbx).mono ?_; rintro ey wy ⟨rfl, hby⟩))
            go_roundw
            case rel => exact ⟨k + 1, by omega, by go_num, bstep (bstep hbk hbx) hby⟩
            case measure => simp [intOf]; omega
    · obtain rfl : k = xs.length := by omega
      have hb3k := HB3.out.trans (hbk.mono HB3.out.size)
      have HX := Lib.hid (rvalid_impl aO R.length cO R wr rfl ((HO.out.below hb3k).mono hb3k.size))
      rw [HvR.out] at HX
      go_wp2_with (go_at_call 11; refine HX.out.mono ?_; rintro e7 w7 ⟨rfl, hb7⟩)
      go_ret
      exact ⟨rfl, bstep (bstep HB.out hbk) hb7⟩

theorem own : ownKnob Try.prog.godebug = none := by kernel_rfl
theorem laidOut : laidOutB Try.prog = true := by kernel_rfl

set_option maxRecDepth 100000 in
theorem lifted (os : Os) (started : os.Started) (H : Type) (enc : TypeId × Value → H) :
    ReturnsInHanded {} Try.checked os 3 .any (Rows.fnRangesRemoveSpec.pre6 enc Try.prog Try.f3 Rows.fnRangesRemoveRow.domain false) (Rows.fnRangesRemoveSpec.post enc Try.prog Try.f3 false true false false) := by
  refine returnsInHanded_of_change (C := Try.checked) own started (by kernel_rfl) Try.func3
    (ChangeSpec.witness6 (enc := enc) (C := Try.checked) false ⟨#[], #[.slice none 0 0], []⟩ 8 (by kernel_rfl) (by kernel_rfl) (by kernel_rfl) (by kernel_rfl)) ?_
  intro W base args ds gs before hval0 hW hcnd _
  have hval : ∀ (j : Nat) t v, Try.f3.params[j]? = some t → args[j]? = some v → Value.okWide Try.prog W .any base t v := hval0
  have hW' := hW
  obtain ⟨p, q, hA0, hV, rfl, hfz, hnd⟩ := hW
  have hA : DataW.TrodAll enc Try.prog W 0 (fun _ => true) true Try.f3.params.toList args.toList ds p := hA0
  rw [Try.params3] at hA hval
  obtain ⟨v0, vs0, d0, ds0, p0, q0, hargs, rfl, rfl, h0, r0⟩ := trodAll_cons hA
  obtain ⟨rfl, rfl, rfl⟩ := trodAll_nil r0
  obtain rfl : args = #[v0] := by cases args; simp_all
  obtain ⟨rfl, rfl⟩ := trodVars_none hV
  have k0 := h0
  have lt0 : ∀ x ∈ p0, x.block < W.heap.size := by obtain ⟨m, hm⟩ := k0; exact DataW.trod_lt m _ _ _ hm
  obtain ⟨a0, len0, cap0, rfl⟩ := okWide_slice Try.underlying22 (hval 0 22 v0 rfl rfl)
  obtain ⟨z0, w0⟩ : ∃ zs, IsRow .u8 W a0 len0 cap0 zs := by
    obtain ⟨fuel, hf⟩ := h0
    rcases open_ints Try.underlying22 Try.underlying5 (by kernel_rfl) hf with ⟨hcs, _⟩ | ⟨x, l, c, zs, hcs, _, hl, hm, hz, _, hcell, hwz⟩
    · simp [Value.cells] at hcs
      obtain ⟨rfl, rfl, rfl⟩ := hcs
      exact ⟨[], .inl ⟨rfl, rfl, rfl, rfl⟩⟩
    · simp [Value.cells] at hcs
      obtain ⟨rfl, rfl, rfl⟩ := hcs
      exact ⟨zs, .inr ⟨_, rfl, hl, hm, by simpa using hz, hcell, hwz⟩⟩
  clear hA0 hval0
  refine (walk a0 len0 cap0 z0 W w0).mono fun e W' ⟨he, bel⟩ => ?_
  subst he
  exact ⟨_, rfl, _, _, _, [], _, [], hW', trodAll_mk1 (shut_bool Try.underlying4 _), (trodAll_cons_mk (Below.trod laidOut (by kernel_rfl) (of_decide_eq_true (by kernel_rfl)) k0 bel lt0) trodAll_mk0), rfl, bel.frame _, fun h => by cases h⟩

theorem over : Rows.fnRangesRemoveRow.holds Try.pinned (OpenSpec.ofChange Rows.fnRangesRemoveSpec) :=
  OpenClaim.holds_of_wide 3 Try.f3 rfl rfl rfl rfl rfl rfl rfl ⟨rfl, rfl, rfl, rfl, rfl⟩ rfl rfl rfl rfl rfl (by kernel_rfl) Try.func3 (by kernel_rfl)
    (of_decide_eq_true (by kernel_rfl)) (by unfold Func.isWrapper; first | (rw [if_pos (by decide +kernel)]; kernel_rfl) | (rw [if_neg (by decide +kernel)]; exact ⟨rfl, rfl⟩))
    (fun os started H enc _ => lifted os started H enc)

/-- The given statement. -/
theorem proved : Rows.FnRangesRemoveSaid := over
end Go.Proofs.Ytghljfddgcclpaa.fnRangesRemove
