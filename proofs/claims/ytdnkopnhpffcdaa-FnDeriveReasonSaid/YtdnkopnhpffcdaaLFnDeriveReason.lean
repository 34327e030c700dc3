/- Every derivable atom has a reason.
   No condition: it holds for every input. -/
import Derived.Test.YtdnkopnhpffcdaaRows
import Derived.WalkKit
import Derived.ProofKit
import Derived.OpenShut
import Derived.ShutString
import Derived.ChangeOld
import Derived.Below
import Derived.Lib.SmallJoins
import Derived.Test.YtdnkopnhpffcdaaVm
namespace Go.Proofs.Ytdnkopnhpffcdaa.fnDeriveReason
open Go.ChangeShapes Go.WideShapes Go.ChangeAt Go.RowKit Go.Joins
open Go.ChangeMaps (open_string shut_string)
set_option linter.unusedVariables false

set_option maxHeartbeats 4000000 in
theorem walk (a0 : Option Addr) (len0 cap0 : Nat) (z0 : List Int) (w : World) (w0 : IsRow .u8 w a0 len0 cap0 z0) :
    Calls Try.prog 4 #[.slice a0 len0 cap0] w fun e w' => e = .returned (.bool true) ∧ Below w.heap.size w w' := by
  by_cases hb : (1048576 : Int) < (len0 : Int)
  · go_enter Try.func4, Try.ntmps4
    go_wp2
    go_ret
    exact ⟨rfl, Below.refl _ _⟩
  have HD := Lib.hid (draw_der w a0 len0 cap0 z0 w0)
  clear w0
  go_enter Try.func4, Try.ntmps4
  go_wp2_with fail
  refine HD.out.mono ?_
  rintro e1 w1 ⟨bs, ab, c, L, ak, ck, rfl, hb1, hl⟩
  have HL := Lib.hid hl
  have hl10 := hl.1
  have hL4 := hl.2.1
  have D1 := Below.refl w1.heap.size w1
  clear HD hl
  have HI := Lib.hid (fun (w' : World) (D : Below w1.heap.size w1 w') => derL_c ab ak bs.length c L.length ck bs L w' (lies_ns HL.out D) rfl (lies_kn HL.out D))
  have HP := Lib.hid (fun (w' : World) (D : Below w1.heap.size w1 w') => derS_c ab ak bs.length c L.length ck bs L w' (lies_ns HL.out D) rfl (lies_kn HL.out D))
  have hdl := derL_len bs L
  obtain ⟨G, hG⟩ : ∃ G, derL bs L = G := ⟨_, rfl⟩
  rw [hG] at HI HP hdl
  have HG := Lib.hid hG
  clear hG
  go_wp2_with fail
  refine (HI.out w1 D1).mono ?_
  rintro e1 w2 ⟨aG, cG, rfl, hb2, own2⟩
  have D2 := bstep D1 hb2
  have SG2 := goti_sl own2 (by omega)
  go_wp2_with fail
  refine (HP.out w2 D2).mono ?_
  rintro e1 w3 ⟨aQ, cQ, rfl, hb3, own3⟩
  have D3 := bstep D2 hb3
  have SG3 := sl_step SG2 hb3
  have SQ3 := goti_sl own3 (by omega)
  clear own2 own3 SG2
  go_wp2_with fail
  refine (sameI_c _ _ _ _ _ G w3 SG3 SQ3).mono ?_
  rintro e1 w4 ⟨rfl, hb4⟩
  have D4 := bstep D3 hb4
  have SG4 := sl_step SG3 hb4
  have SQ4 := sl_step SQ3 hb4
  clear SG3 SQ3
  have HSO := Lib.hid (fun j (h : j + 1 < (derL bs L).length) => derL_sorted bs L h)
  have HRE := Lib.hid (fun x (h : x ∈ derL bs L) => derL_reason (bs := bs) (kn := L) h)
  rw [HG.out] at HSO HRE
  have D4' := D4
  have SG4' := SG4
  clear D1 D2 D3 hb2 hb3 hb4 SQ4 SG4 D4 HI HP
  go_wp2_with fail
  go_loopw [7] (fun i wr => ∃ k : Nat, k ≤ G.length ∧ i = .int .i64 k ∧ Below w1.heap.size w1 wr ∧ Sl 1 wr wr.heap.size aG G.length (inG G)) (fun i _ => G.length - (intOf i).toNat)
  case atStart => exact ⟨0, by omega, rfl, D4', SG4'⟩
  case round =>
    clear D4' SG4'
    obtain ⟨k, hk, rfl, Dr, SG⟩ := hrel
    by_cases hlt : k < G.length
    · have hki : (k : Int) < (G.length : Int) := by omega
      have HS := Lib.hid SG
      have HRX := Lib.hid (HRE.out _ (getD_mem (d := 0) hlt))
      obtain ⟨b, off, rfl, hB, hc⟩ := is_at SG hlt
      have y := hc k hlt
      obtain ⟨p, hp⟩ : ∃ p, G.getD k 0 = p := ⟨_, rfl⟩
      rw [hp] at y HRX
      have HP := Lib.hid hp
      have HH := Lib.hid (hasI_c ak _ ck L p wr rfl (lies_kn HL.out Dr))
      clear hc hp SG
      go_wp2_with fail
      refine HH.out.mono ?_
      rintro e1 w7 ⟨rfl, rfl⟩
      obtain ⟨f0, hf0⟩ : ∃ f, decide (p ∈ L) = f := ⟨_, rfl⟩
      rw [hf0]
      have HF0 := Lib.hid hf0
      clear hf0 HH y
      go_wp2_with fail
      go_loopw [8, 9] (fun v i wr => ∃ (j : Nat) (f : Bool), j ≤ bs.length ∧ i = .int .i64 j ∧ v = .bool f ∧ Below w1.heap.size w1 wr ∧ Sl 1 wr wr.heap.size (some ⟨b, off, none⟩) G.length (inG G) ∧ (f0 = true → f = true) ∧ ∀ i, i < j → (bs.getD i (0, [])).1 ∈ G → p ∈ (bs.getD i (0, [])).2 → f = true) (fun _ i _ => bs.length - (intOf i).toNat)
      case atStart => exact ⟨0, f0, by omega, rfl, rfl, Dr, HS.out, id, fun i hi => by omega⟩
      case round =>
        clear Dr HS
        obtain ⟨j, f, hj, rfl, rfl, Dr, SG, hf1, hf2⟩ := hrel
        have HF1 := Lib.hid hf1
        have HF2 := Lib.hid hf2
        clear hf1 hf2
        by_cases hjl : j < bs.length
        · have hji : (j : Int) < (bs.length : Int) := by omega
          cases f
          · obtain ⟨b2, off2, a', c', rfl, hB2, x0, x1, hc', hsl⟩ := (lies_ns HL.out Dr).at hjl
            obtain ⟨_, _, e, hBg, hcg⟩ := is_at SG hlt
            simp only [Option.some.injEq, Addr.mk.injEq, and_true] at e
            obtain ⟨rfl, rfl⟩ := e
            have y := hcg k hlt
            rw [HP.out] at y
            obtain ⟨bx, hbx⟩ : ∃ q, bs.getD j (0, []) = q := ⟨_, rfl⟩
            rw [hbx] at x0 x1 hc' hsl
            have HBX := Lib.hid hbx
            have HQ1 := Lib.hid (has_q _ _ cG G bx.1 wr rfl SG)
            have HQ2 := Lib.hid (has_q a' _ c' bx.2 p wr rfl hsl)
            obtain ⟨z1, hz1⟩ : ∃ z, decide (bx.1 ∈ G) = z := ⟨_, rfl⟩
            obtain ⟨z2, hz2⟩ : ∃ z, decide (p ∈ bx.2) = z := ⟨_, rfl⟩
            rw [hz1] at HQ1
            rw [hz2] at HQ2
            have HZ1 := Lib.hid hz1
            have HZ2 := Lib.hid hz2
            have HSG := Lib.hid SG
            clear hcg hbx hc' hsl hz1 hz2 SG
            cases z1
            · go_wp2_with fail
              go_quiet ((first | (go_at_call 19; with_reducible exact HQ1.out _) | (go_at_call 19; with_reducible exact HQ2.out _)))
              have Bq := bdrewN (Below.refl wr.heap.size wr) nq
              go_wp2_with fail
              go_roundw
              case rel => exact ⟨j + 1, false, by omega, by go_num, rfl, bstep Dr Bq, sl_step HSG.out Bq, HF1.out, fun i hi h1 h2 => by
                by_cases e : i = j
                · subst e
                  have := HZ1.out
                  rw [HBX.out] at h1
                  simp [h1] at this
                · exact HF2.out i (by omega) h1 h2⟩
              case measure => simp [intOf]; omega
            · go_wp2_with fail
              go_quiet ((first | (go_at_call 19; with_reducible exact HQ1.out _) | (go_at_call 19; with_reducible exact HQ2.out _)))
              have Bq := bdrewN (Below.refl wr.heap.size wr) nq
              go_wp2_with fail
              go_roundw
              case rel => exact ⟨j + 1, z2, by omega, by go_num, rfl, bstep Dr Bq, sl_step HSG.out Bq, fun h => (by have := HF1.out h; cases this), fun i hi h1 h2 => by
                by_cases e : i = j
                · subst e
                  rw [HBX.out] at h2
                  rw [← HZ2.out]
                  exact decide_eq_true h2
                · have := HF2.out i (by omega) h1 h2; cases this⟩
              case measure => simp [intOf]; omega
          · go_wp2_with fail
            go_quiet (fail)
            have Bq := bdrewN (Below.refl wr.heap.size wr) nq
            go_wp2_with fail
            go_roundw
            case rel => exact ⟨j + 1, true, by omega, by go_num, rfl, bstep Dr Bq, sl_step SG Bq, fun _ => rfl, fun i hi h1 h2 => rfl⟩
            case measure => simp [intOf]; omega
        · obtain rfl : j = bs.length := by omega
          have hft : f = true := by
            rcases HRX.out with m | ⟨i, hi, h1, h2⟩
            · exact HF1.out (by rw [← HF0.out]; exact decide_eq_true m)
            · exact HF2.out i hi h1 h2
          subst hft
          obtain ⟨_, _, e, hBg, hcg⟩ := is_at SG hlt
          simp only [Option.some.injEq, Addr.mk.injEq, and_true] at e
          obtain ⟨rfl, rfl⟩ := e
          have y := hcg k hlt
          rcases Nat.eq_zero_or_pos k with h0 | h0
          · have h0' : decide ((0 : Int) < (k : Int)) = false := decide_eq_false (by omega)
            have h0'' : decide (0 < k) = false := decide_eq_false (by omega)
            clear hcg y h0
            go_wp2_with fail
            go_quiet (fail)
            have Bq := bdrewN (Below.refl wr.heap.size wr) nq
            go_wp2_with fail
            go_roundw
            case rel => exact ⟨k + 1, by omega, by go_num, bstep Dr Bq, sl_step SG Bq⟩
            case measure => simp [intOf]; omega
          · obtain ⟨l, rfl⟩ : ∃ l, k = l + 1 := ⟨k - 1, by omega⟩
            have x := hcg l (by omega)
            have hso := HSO.out l (by omega)
            obtain ⟨p1, hp1⟩ : ∃ q, G.getD l 0 = q := ⟨_, rfl⟩
            obtain ⟨p2, hp2⟩ : ∃ q, G.getD (l + 1) 0 = q := ⟨_, rfl⟩
            rw [hp1] at x hso
            rw [hp2] at y hso
            have g3 : decide ((0 : Int) < (l : Int) + 1) = true := decide_eq_true (by omega)
            have g4 : IntKind.i64.wrap ((l : Int) + 1 - 1) = l := by rw [IntWalk.i64_in _ (by omega)]; omega
            have g5 : IntKind.i64.wrap (l : Int) = l := IntWalk.i64_in _ (by omega)
            have g6 : (l : Int) < (G.length : Int) := by omega
            have g7 : decide (p2 ≤ p1) = false := decide_eq_false (by omega)
            clear hcg hp1 hp2 hso h0
            go_wp2_with fail
            go_quiet (fail)
            have Bq := bdrewN (Below.refl wr.heap.size wr) nq
            go_wp2_with fail
            go_roundw
            case rel => exact ⟨l + 1 + 1, by omega, by go_num, bstep Dr Bq, sl_step SG Bq⟩
            case measure => simp [intOf]; omega
    · obtain rfl : k = G.length := by omega
      go_wp2_with fail
      go_ret
      exact ⟨rfl, bstep hb1 Dr⟩

theorem own : ownKnob Try.prog.godebug = none := by kernel_rfl
theorem laidOut : laidOutB Try.prog = true := by kernel_rfl

set_option maxRecDepth 100000 in
theorem lifted (os : Os) (started : os.Started) (H : Type) (enc : TypeId × Value → H) :
    ReturnsInHanded {} Try.checked os 4 .any (Rows.fnDeriveReasonSpec.pre6 enc Try.prog Try.f4 Rows.fnDeriveReasonRow.domain false) (Rows.fnDeriveReasonSpec.post enc Try.prog Try.f4 false true false false) := by
  refine returnsInHanded_of_change (C := Try.checked) own started (by kernel_rfl) Try.func4
    (ChangeSpec.witness6 (enc := enc) (C := Try.checked) false ⟨#[], #[.slice none 0 0], []⟩ 8 (by kernel_rfl) (by kernel_rfl) (by kernel_rfl) (by kernel_rfl)) ?_
  intro W base args ds gs before hval0 hW hcnd _
  have hval : ∀ (j : Nat) t v, Try.f4.params[j]? = some t → args[j]? = some v → Value.okWide Try.prog W .any base t v := hval0
  have hW' := hW
  obtain ⟨p, q, hA0, hV, rfl, hfz, hnd⟩ := hW
  have hA : DataW.TrodAll enc Try.prog W 0 (fun _ => true) true Try.f4.params.toList args.toList ds p := hA0
  rw [Try.params4] at hA hval
  obtain ⟨v0, vs0, d0, ds0, p0, q0, hargs, rfl, rfl, h0, r0⟩ := trodAll_cons hA
  obtain ⟨rfl, rfl, rfl⟩ := trodAll_nil r0
  obtain rfl : args = #[v0] := by cases args; simp_all
  obtain ⟨rfl, rfl⟩ := trodVars_none hV
  have k0 := h0
  have lt0 : ∀ x ∈ p0, x.block < W.heap.size := by obtain ⟨m, hm⟩ := k0; exact DataW.trod_lt m _ _ _ hm
  obtain ⟨a0, len0, cap0, rfl⟩ := okWide_slice Try.underlying22 (hval 0 22 v0 rfl rfl)
  obtain ⟨z0, w0⟩ : ∃ zs, IsRow .u8 W a0 len0 cap0 zs := by
    obtain ⟨fuel, hf⟩ := h0
    rcases open_ints Try.underlying22 Try.underlying5 (by kernel_rfl) hf with ⟨hcs, _⟩ | ⟨x, l, c, zs, hcs, _, hl, hm, hz, _, hcell, hwz⟩
    · simp [Value.cells] at hcs
      obtain ⟨rfl, rfl, rfl⟩ := hcs
      exact ⟨[], .inl ⟨rfl, rfl, rfl, rfl⟩⟩
    · simp [Value.cells] at hcs
      obtain ⟨rfl, rfl, rfl⟩ := hcs
      exact ⟨zs, .inr ⟨_, rfl, hl, hm, by simpa using hz, hcell, hwz⟩⟩
  clear hA0 hval0
  refine (walk a0 len0 cap0 z0 W w0).mono fun e W' ⟨he, bel⟩ => ?_
  subst he
  exact ⟨_, rfl, _, _, _, [], _, [], hW', trodAll_mk1 (shut_bool Try.underlying4 _), (trodAll_cons_mk (Below.trod laidOut (by kernel_rfl) (of_decide_eq_true (by kernel_rfl)) k0 bel lt0) trodAll_mk0), rfl, bel.frame _, fun h => by cases h⟩

theorem over : Rows.fnDeriveReasonRow.holds Try.pinned (OpenSpec.ofChange Rows.fnDeriveReasonSpec) :=
  OpenClaim.holds_of_wide 4 Try.f4 rfl rfl rfl rfl rfl rfl rfl ⟨rfl, rfl, rfl, rfl, rfl⟩ rfl rfl rfl rfl rfl (by kernel_rfl) Try.func4 (by kernel_rfl)
    (of_decide_eq_true (by kernel_rfl)) (by unfold Func.isWrapper; first | (rw [if_pos (by decide +kernel)]; kernel_rfl) | (rw [if_neg (by decide +kernel)]; exact ⟨rfl, rfl⟩))
    (fun os started H enc _ => lifted os started H enc)

/-- The given statement. -/
theorem proved : Rows.FnDeriveReasonSaid := over
end Go.Proofs.Ytdnkopnhpffcdaa.fnDeriveReason
