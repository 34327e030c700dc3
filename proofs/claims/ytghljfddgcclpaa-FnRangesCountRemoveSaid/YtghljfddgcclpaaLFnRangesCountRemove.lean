/- Removing decreases the count by the removed numbers.
   No condition: it holds for every input. -/
import Derived.Test.YtghljfddgcclpaaRows
import Derived.WalkKit
import Derived.ProofKit
import Derived.OpenShut
import Derived.ShutString
import Derived.ChangeOld
import Derived.Below
import Derived.Lib.SmallJoins
import Derived.Test.YtghljfddgcclpaaYe
import Derived.Test.YtghljfddgcclpaaYf
import Derived.Test.YtghljfddgcclpaaYh
namespace Go.Proofs.Ytghljfddgcclpaa.fnRangesCountRemove
open Go.ChangeShapes Go.WideShapes Go.ChangeAt Go.RowKit Go.Joins
open Go.ChangeMaps (open_string shut_string)
set_option linter.unusedVariables false

set_option maxHeartbeats 4000000 in
theorem walk (a0 : Option Addr) (len0 cap0 : Nat) (z0 : List Int) (w : World) (w0 : IsRow .u8 w a0 len0 cap0 z0) :
    Calls Try.prog 4 #[.slice a0 len0 cap0] w fun e w' => e = .returned (.bool true) ∧ Below w.heap.size w w' := by
  by_cases hb : (1048576 : Int) < (len0 : Int)
  · go_enter Try.func4, Try.ntmps4
    go_wp2
    go_ret
    exact ⟨rfl, Below.refl _ _⟩
  have HD := Lib.hid (draw_rem w a0 len0 cap0 z0 w0)
  clear w0
  go_enter Try.func4, Try.ntmps4
  go_wp2_with fail
  refine HD.out.mono ?_
  rintro e1 w1 ⟨l, sa, c, low, high, rfl, hl20, hx, hy, hb1, S1⟩
  clear HD
  have HI := Lib.hid (rremove_impl low high sa l.length c l w1 rfl hx hy S1)
  have HP := Lib.hid (fun (w' : World) (h : Below w1.heap.size w1 w') => rremove_spec low high sa l.length c l w' rfl hx hy ((S1.below h).mono h.size))
  have HS := Lib.hid S1
  obtain ⟨R, hR⟩ : ∃ x, x = remS l low high := ⟨_, rfl⟩
  obtain ⟨V, hV⟩ : ∃ x, x = remOk l low high := ⟨_, rfl⟩
  rw [← hR, ← hV] at HI HP
  have HR := Lib.hid hR
  have HV := Lib.hid hV
  clear hR hV hx hy S1
  go_wp2_with fail
  refine HI.out.mono ?_
  rintro e2 w2 ⟨aO, cO, rfl, hn2, SO2⟩
  clear HI
  go_wp2_with fail
  refine (HP.out _ hn2).mono ?_
  rintro e3 w3 ⟨aP, cP, rfl, hn3, SP3⟩
  have hn13 := bstep hn2 hn3
  have SO3 := (SO2.below hn3).mono hn3.size
  have HSa := Lib.hid (fun (w' : World) (h : Below w3.heap.size w3 w') => sameRanges_c aO aP R.length cO cP R w' ((SO3.below h).mono h.size) ((SP3.below h).mono h.size))
  have HO := Lib.hid SO3
  clear HP hn2 SO2 hn3 SP3 SO3
  have hb3 := bstep hb1 hn13
  have HN := Lib.hid hn13
  have hr3 := Below.refl w3.heap.size w3
  clear hb1 hn13
  cases V
  · go_wp2_with (go_at_call 8; first | (with_reducible refine (HSa.out _ hr3).mono ?_; rintro e4 w4 ⟨rfl, hb4⟩) | (with_reducible refine (HSa.out _ hb4).mono ?_; rintro e5 w5 ⟨rfl, hb5⟩))
    go_ret
    exact ⟨rfl, bstep hb3 (hb4.trans (hb5.mono hb4.size))⟩
  obtain ⟨hv, hsp, hS, hvR⟩ := rem_ok HV.out.symm
  rw [hS] at HR
  obtain ⟨h01, h02, h03⟩ := hsp
  clear hS
  rw [← HR.out] at hvR
  obtain ⟨hc1, hc2⟩ := rok_t hv
  have HL0 := Lib.hid (laps_0 (a := low) hc2)
  have HLs := Lib.hid (fun b (h : low ≤ b) => laps_step (a := low) (b := b) hc2 h)
  have HE := Lib.hid (show cnt l - cnt R = laps low high l by rw [HR.out]; exact rem_cnt h02 hc2)
  obtain ⟨q1, q2⟩ := cnt_small hv
  obtain ⟨q3, q4⟩ := cnt_small hvR
  have Hv := Lib.hid hv
  have HvR := Lib.hid hvR
  clear hv hvR hc1 hc2
  go_wp2_with (go_at_call 8; refine (HSa.out _ hr3).mono ?_; rintro e4 w4 ⟨rfl, hb4⟩)
  have HB := Lib.hid (bstep hb3 hb4)
  have HB3 := Lib.hid hb4
  have hr5 := Below.refl w4.heap.size w4
  clear hb4 hb3 hr3
  go_loopw [10, 11] (fun s i wr => ∃ j c : Int, i = .int .i64 j ∧ s = .int .i64 c ∧ low ≤ j ∧ j ≤ high + 1 ∧ c = laps low (j - 1) l ∧ 0 ≤ c ∧ c ≤ j - low ∧ Below w4.heap.size w4 wr) (fun _ i _ => (high + 1 - intOf i).toNat)
  case atStart => exact ⟨low, 0, rfl, rfl, by omega, by omega, HL0.out.symm, by omega, by omega, hr5⟩
  case round =>
    clear hr5
    obtain ⟨j, n, rfl, rfl, hj1, hj2, hn, hn0, hn1, hbk⟩ := hrel
    have HNN := Lib.hid hn
    have hb3k := HB3.out.trans (hbk.mono HB3.out.size)
    have hb1k := HN.out.trans (hb3k.mono HN.out.size)
    clear hn
    by_cases hlt : j ≤ high
    · have HX := Lib.hid (rhas_c j sa l.length c l wr rfl ((HS.out.below hb1k).mono hb1k.size))
      have hq := HLs.out j hj1
      cases hh : hasR l j
      · rw [Hv.out, hh] at HX
        rw [hh, ← HNN.out] at hq
        have HQ := Lib.hid (show n = laps low (j + 1 - 1) l by rw [show j + 1 - 1 = j by omega, hq]; simp)
        clear hq hh hb3k hb1k
        go_wp2_with (go_at_call 10; refine HX.out.mono ?_; rintro ex wx ⟨rfl, hbx⟩)
        go_roundw
        case rel => exact ⟨j + 1, n, by go_num, rfl, by omega, by omega, HQ.out, by omega, by omega, bstep hbk hbx⟩
        case measure => simp [intOf]; omega
      · rw [Hv.out, hh] at HX
        rw [hh, ← HNN.out] at hq
        have HQ := Lib.hid (show n + 1 = laps low (j + 1 - 1) l by rw [show j + 1 - 1 = j by omega, hq]; simp)
        clear hq hh hb3k hb1k
        go_wp2_with (go_at_call 10; refine HX.out.mono ?_; rintro ex wx ⟨rfl, hbx⟩)
        go_roundw
        case rel => exact ⟨j + 1, n + 1, by go_num, by go_num, by omega, by omega, HQ.out, by omega, by omega, bstep hbk hbx⟩
        case measure => simp [intOf]; omega
    · obtain rfl : j = high + 1 := by omega
      have he : cnt l - cnt R = n := by rw [HE.out, HNN.out]; congr 1; omega
      have HX := Lib.hid (rcount_c sa l.length c l wr rfl Hv.out ((HS.out.below hb1k).mono hb1k.size))
      have HY := Lib.hid (fun (w' : World) (h : Below wr.heap.size wr w') => rcount_c aO R.length cO R w' rfl HvR.out (((HO.out.below hb3k).mono hb3k.size |>.below h).mono h.size))
      obtain ⟨C1, hC1⟩ : ∃ x, cnt l = x := ⟨_, rfl⟩
      obtain ⟨C2, hC2⟩ : ∃ x, cnt R = x := ⟨_, rfl⟩
      rw [hC1] at HX he q1 q2
      rw [hC2] at HY he q3 q4
      clear hb3k hb1k hC1 hC2
      subst he
      go_wp2_with (go_at_call 12; first | (with_reducible refine HX.out.mono ?_; rintro ex wx ⟨rfl, hbx⟩) | (with_reducible refine (HY.out _ hbx).mono ?_; rintro ey wy ⟨rfl, hby⟩))
      go_ret
      exact ⟨by simp, bstep (bstep HB.out hbk) (hbx.trans (hby.mono hbx.size))⟩

theorem own : ownKnob Try.prog.godebug = none := by kernel_rfl
theorem laidOut : laidOutB Try.prog = true := by kernel_rfl

set_option maxRecDepth 100000 in
theorem lifted (os : Os) (started : os.Started) (H : Type) (enc : TypeId × Value → H) :
    ReturnsInHanded {} Try.checked os 4 .any (Rows.fnRangesCountRemoveSpec.pre6 enc Try.prog Try.f4 Rows.fnRangesCountRemoveRow.domain false) (Rows.fnRangesCountRemoveSpec.post enc Try.prog Try.f4 false true false false) := by
  refine returnsInHanded_of_change (C := Try.checked) own started (by kernel_rfl) Try.func4
    (ChangeSpec.witness6 (enc := enc) (C := Try.checked) false ⟨#[], #[.slice none 0 0], []⟩ 8 (by kernel_rfl) (by kernel_rfl) (by kernel_rfl) (by kernel_rfl)) ?_
  intro W base args ds gs before hval0 hW hcnd _
  have hval : ∀ (j : Nat) t v, Try.f4.params[j]? = some t → args[j]? = some v → Value.okWide Try.prog W .any base t v := hval0
  have hW' := hW
  obtain ⟨p, q, hA0, hV, rfl, hfz, hnd⟩ := hW
  have hA : DataW.TrodAll enc Try.prog W 0 (fun _ => true) true Try.f4.params.toList args.toList ds p := hA0
  rw [Try.params4] at hA hval
  obtain ⟨v0, vs0, d0, ds0, p0, q0, hargs, rfl, rfl, h0, r0⟩ := trodAll_cons hA
  obtain ⟨rfl, rfl, rfl⟩ := trodAll_nil r0
  obtain rfl : args = #[v0] := by cases args; simp_all
  obtain ⟨rfl, rfl⟩ := trodVars_none hV
  have k0 := h0
  have lt0 : ∀ x ∈ p0, x.block < W.heap.size := by obtain ⟨m, hm⟩ := k0; exact DataW.trod_lt m _ _ _ hm
  obtain ⟨a0, len0, cap0, rfl⟩ := okWide_slice Try.underlying22 (hval 0 22 v0 rfl rfl)
  obtain ⟨z0, w0⟩ : ∃ zs, IsRow .u8 W a0 len0 cap0 zs := by
    obtain ⟨fuel, hf⟩ := h0
    rcases open_ints Try.underlying22 Try.underlying5 (by kernel_rfl) hf with ⟨hcs, _⟩ | ⟨x, l, c, zs, hcs, _, hl, hm, hz, _, hcell, hwz⟩
    · simp [Value.cells] at hcs
      obtain ⟨rfl, rfl, rfl⟩ := hcs
      exact ⟨[], .inl ⟨rfl, rfl, rfl, rfl⟩⟩
    · simp [Value.cells] at hcs
      obtain ⟨rfl, rfl, rfl⟩ := hcs
      exact ⟨zs, .inr ⟨_, rfl, hl, hm, by simpa using hz, hcell, hwz⟩⟩
  clear hA0 hval0
  refine (walk a0 len0 cap0 z0 W w0).mono fun e W' ⟨he, bel⟩ => ?_
  subst he
  exact ⟨_, rfl, _, _, _, [], _, [], hW', trodAll_mk1 (shut_bool Try.underlying4 _), (trodAll_cons_mk (Below.trod laidOut (by kernel_rfl) (of_decide_eq_true (by kernel_rfl)) k0 bel lt0) trodAll_mk0), rfl, bel.frame _, fun h => by cases h⟩

theorem over : Rows.fnRangesCountRemoveRow.holds Try.pinned (OpenSpec.ofChange Rows.fnRangesCountRemoveSpec) :=
  OpenClaim.holds_of_wide 4 Try.f4 rfl rfl rfl rfl rfl rfl rfl ⟨rfl, rfl, rfl, rfl, rfl⟩ rfl rfl rfl rfl rfl (by kernel_rfl) Try.func4 (by kernel_rfl)
    (of_decide_eq_true (by kernel_rfl)) (by unfold Func.isWrapper; first | (rw [if_pos (by decide +kernel)]; kernel_rfl) | (rw [if_neg (by decide +kernel)]; exact ⟨rfl, rfl⟩))
    (fun os started H enc _ => lifted os started H enc)

/-- The given statement. -/
theorem proved : Rows.FnRangesCountRemoveSaid := over
end Go.Proofs.Ytghljfddgcclpaa.fnRangesCountRemove
