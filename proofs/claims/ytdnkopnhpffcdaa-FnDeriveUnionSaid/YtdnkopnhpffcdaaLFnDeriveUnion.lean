/- Separate knowledge derives no more than joint knowledge.
   No condition: it holds for every input. -/
import Derived.Test.YtdnkopnhpffcdaaRows
import Derived.WalkKit
import Derived.ProofKit
import Derived.OpenShut
import Derived.ShutString
import Derived.ChangeOld
import Derived.Below
import Derived.Lib.SmallJoins
import Derived.Test.YtdnkopnhpffcdaaVn
namespace Go.Proofs.Ytdnkopnhpffcdaa.fnDeriveUnion
open Go.ChangeShapes Go.WideShapes Go.ChangeAt Go.RowKit Go.Joins
open Go.ChangeMaps (open_string shut_string)
set_option linter.unusedVariables false

set_option maxHeartbeats 4000000 in
theorem walk (a0 : Option Addr) (len0 cap0 : Nat) (z0 : List Int) (a1 : Option Addr) (len1 cap1 : Nat) (z1 : List Int) (w : World) (w0 : IsRow .u8 w a0 len0 cap0 z0) (w1 : IsRow .u8 w a1 len1 cap1 z1) :
    Calls Try.prog 5 #[.slice a0 len0 cap0, .slice a1 len1 cap1] w fun e w' => e = .returned (.bool true) ∧ Below w.heap.size w w' := by
  have hm1 : (len1 : Int) ≤ 9223372036854775807 := by
    have w1' := w1
    unfold IsRow maxLen at w1'
    rcases w1' with ⟨_, h, _, _⟩ | ⟨_, _, h1, h2, _⟩ <;> omega
  have W1 := Lib.hid w1
  clear w1
  by_cases hb : (1048576 : Int) < (len0 : Int)
  · go_enter Try.func5, Try.ntmps5
    go_wp2
    go_ret
    exact ⟨rfl, Below.refl _ _⟩
  by_cases hb' : (1048576 : Int) < (len1 : Int)
  · go_enter Try.func5, Try.ntmps5
    go_wp2
    go_ret
    exact ⟨rfl, Below.refl _ _⟩
  have HD := Lib.hid (draw_der w a0 len0 cap0 z0 w0)
  clear w0
  go_enter Try.func5, Try.ntmps5
  go_wp2_with fail
  refine HD.out.mono ?_
  rintro e1 w1 ⟨bs, ab, c, L, ak, ck, rfl, hb1, hl⟩
  have HL := Lib.hid hl
  have hl10 := hl.1
  have hL4 := hl.2.1
  have D1 := Below.refl w1.heap.size w1
  clear HD hl
  have HI := Lib.hid (fun (w' : World) (D : Below w1.heap.size w1 w') => derL_c ab ak bs.length c L.length ck bs L w' (lies_ns HL.out D) rfl (lies_kn HL.out D))
  have HP := Lib.hid (fun (w' : World) (D : Below w1.heap.size w1 w') => derS_c ab ak bs.length c L.length ck bs L w' (lies_ns HL.out D) rfl (lies_kn HL.out D))
  have hdl := derL_len bs L
  obtain ⟨G, hG⟩ : ∃ G, derL bs L = G := ⟨_, rfl⟩
  rw [hG] at HI HP hdl
  have HG := Lib.hid hG
  clear hG
  go_wp2_with fail
  refine (HI.out w1 D1).mono ?_
  rintro e1 w2 ⟨aG, cG, rfl, hb2, own2⟩
  have D2 := bstep D1 hb2
  have SG2 := goti_sl own2 (by omega)
  go_wp2_with fail
  refine (HP.out w2 D2).mono ?_
  rintro e1 w3 ⟨aQ, cQ, rfl, hb3, own3⟩
  have D3 := bstep D2 hb3
  have SG3 := sl_step SG2 hb3
  have SQ3 := goti_sl own3 (by omega)
  clear own2 own3 SG2
  go_wp2_with fail
  refine (sameI_c _ _ _ _ _ G w3 SG3 SQ3).mono ?_
  rintro e1 w4 ⟨rfl, hb4⟩
  have D4 := bstep D3 hb4
  have SG4 := sl_step SG3 hb4
  have SQ4 := sl_step SQ3 hb4
  clear SG3 SQ3
  have HV := Lib.hid (bvalid_spec ab bs.length c bs w4 (lies_ns HL.out D4))
  obtain ⟨v, hv⟩ : ∃ v, boxesOk bs = v := ⟨_, rfl⟩
  rw [hv] at HV
  have HVV := Lib.hid hv
  clear hv
  go_wp2_with fail
  refine HV.out.mono ?_
  rintro e1 w5 ⟨rfl, rfl⟩
  cases v
  · skip
    go_wp2_with fail
    refine (sameI_c _ _ _ _ _ G w4 SG4 SQ4).mono ?_
    rintro e1 w5 ⟨rfl, hb5⟩
    have D5 := bstep D4 hb5
    go_wp2_with fail
    go_ret
    exact ⟨rfl, bstep hb1 D5⟩
  have W4 := isrow_below W1.out (bstep hb1 D4)
  have HI2 := Lib.hid (fun (K : List Int) (aK : Option Addr) (cK : Nat) (w' : World) (D : Below w1.heap.size w1 w') (S : Sl 1 w' w'.heap.size aK K.length (inG K)) => derL_c ab aK bs.length c K.length cK bs K w' (lies_ns HL.out D) rfl S)
  clear HI HP hb2 hb3 hb4 D1 D2 D3 SQ4
  go_wp2_with fail
  refine (draw_der w4 a1 len1 cap1 z1 W4).mono ?_
  rintro e1 w5 ⟨bs2, ab2, c2, K, aK, cK, rfl, hb5, hl2⟩
  have D5 := bstep D4 hb5
  have SG5 := sl_step SG4 hb5
  have SK5 := hl2.2.2.2.2.2
  have hK4 := hl2.2.1
  clear hl2 W4 SG4 D4 hb5
  obtain ⟨G2, hG2⟩ : ∃ G2, derL bs K = G2 := ⟨_, rfl⟩
  have hdl2 := derL_len bs K
  have HC2 := Lib.hid (HI2.out K aK cK w5 D5 SK5)
  rw [hG2] at HC2 hdl2
  have HG2 := Lib.hid hG2
  clear hG2
  go_wp2_with fail
  refine HC2.out.mono ?_
  rintro e1 w6 ⟨aU, cU, rfl, hb6, ownU⟩
  have D6 := bstep D5 hb6
  have SG6 := sl_step SG5 hb6
  have SK6 := sl_step SK5 hb6
  have SU6 := goti_sl ownU (by omega)
  clear HC2 D5 SG5 SK5 ownU hb6
  have E7 := own_emp (base := w6.heap.size) (Blk.new w6 #[] 3) (Nat.le_refl _)
  have B7 := bpush (Below.refl w6.heap.size w6) (Obj.cells #[] 3)
  have SL7 := lies_kn HL.out (bstep D6 B7)
  go_wp2_with (first
    | (at_builtin; refine wp_appi rfl _ _ rfl w6.heap.size _ 0 (ints []) ak L.length ck _ L rfl rfl E7 SL7 rfl (by omega) (by first | omega | (simp; omega) | simp) L.length (ints L) (by simp) (by simp [ints]) ?_; intro aA cA wA ownA hgA; have BA := B7.trans (grown_chg E7 hgA (by simp)); have SKA := sl_step SK6 BA; have zA := BA.size)
    | (at_builtin; refine wp_appi rfl _ _ rfl w6.heap.size _ L.length (ints L) aK K.length cK _ K rfl rfl ownA SKA rfl (by omega) (by first | omega | (simp; omega) | simp) (L.length + K.length) (ints (L ++ K)) (by simp) (by simp [ints]) ?_; intro aB cB wB ownB hgB)
    | fail)
  have BB := BA.trans (grown_chg ownA hgB zA)
  have DB := bstep D6 BB
  have SB : Sl 1 wB wB.heap.size aB (L.length + K.length) (inG (L ++ K)) := (ow_of_row ownB (by omega) (fun i hi j hj => ints_at _ i (by simpa using hi) j hj)).sl
  have SGB := sl_step SG6 BB
  have SUB := sl_step SU6 BB
  have hal := derL_len bs (L ++ K)
  have HC := Lib.hid (derL_c ab aB bs.length c (L.length + K.length) cB bs (L ++ K) wB (lies_ns HL.out DB) (by simp) SB)
  have HUN := Lib.hid (fun x h1 h2 h => derL_union (bs := bs) (kn := L) (km := K) (x := x) (by omega) h1 h2 h)
  rw [HG.out, HG2.out] at HUN
  obtain ⟨A, hA⟩ : ∃ A, derL bs (L ++ K) = A := ⟨_, rfl⟩
  rw [hA] at HC hal HUN
  clear E7 B7 SL7 BA SKA ownA hgA ownB hgB SB hA BB SG6 SK6 SU6 D6 HI2
  refine HC.out.mono ?_
  rintro e1 w7 ⟨aH, cH, rfl, hb7, ownH⟩
  have D7 := bstep DB hb7
  have SG7 := sl_step SGB hb7
  have SU7 := sl_step SUB hb7
  have SH7 := goti_sl ownH (by omega)
  clear DB SGB SUB ownH hb7 HC
  go_wp2_with fail
  go_loopw [13] (fun i wr => ∃ k : Nat, k ≤ G.length + G2.length ∧ i = .int .i64 k ∧ Below w1.heap.size w1 wr ∧ Sl 1 wr wr.heap.size aG G.length (inG G) ∧ Sl 1 wr wr.heap.size aU G2.length (inG G2) ∧ Sl 1 wr wr.heap.size aH A.length (inG A)) (fun i _ => G.length + G2.length - (intOf i).toNat)
  case atStart => exact ⟨0, by omega, rfl, D7, SG7, SU7, SH7⟩
  case round =>
    clear D7 SG7 SU7 SH7
    obtain ⟨k, hk, rfl, Dr, SG, SU, SH⟩ := hrel
    by_cases hlt : k < G.length + G2.length
    · have hki : (k : Int) < (G.length : Int) + (G2.length : Int) := by omega
      have E8 := own_emp (base := wr.heap.size) (Blk.new wr #[] 3) (Nat.le_refl _)
      have B8 := bpush (Below.refl wr.heap.size wr) (Obj.cells #[] 3)
      have SG8 := sl_step SG B8
      have hkl : k < (G ++ G2).length := by simp; omega
      obtain ⟨p, hp⟩ : ∃ p, (G ++ G2).getD k 0 = p := ⟨_, rfl⟩
      go_wp2_with (first
        | (at_builtin; refine wp_appi rfl _ _ rfl wr.heap.size _ 0 (ints []) aG G.length cG _ G rfl rfl E8 SG8 rfl (by omega) (by first | omega | (simp; omega) | simp) G.length (ints G) (by simp) (by simp [ints]) ?_; intro aX cX wX ownX hgX; have BX := B8.trans (grown_chg E8 hgX (by simp)); have SUX := sl_step SU BX; have zX := BX.size)
        | (at_builtin; refine wp_appi rfl _ _ rfl wr.heap.size _ G.length (ints G) aU G2.length cU _ G2 rfl rfl ownX SUX rfl (by omega) (by first | omega | (simp; omega) | simp) (G.length + G2.length) (ints (G ++ G2)) (by simp) (by simp [ints]) ?_; intro aY cY wY ownY hgY; have SY : Sl 1 wY wY.heap.size aY (G.length + G2.length) (inG (G ++ G2)) := (ow_of_row ownY (by omega) (fun i hi j hj => ints_at _ i (by simpa using hi) j hj)).sl; obtain ⟨bY, offY, rfl, hBY, hcY⟩ := is_at SY hlt; have y := hcY k hlt; rw [hp] at y; clear hcY SY)
        | fail)
      have BY := BX.trans (grown_chg ownX hgY zX)
      have DY := bstep Dr BY
      have SGY := sl_step SG BY
      have SUY := sl_step SU BY
      have SHY := sl_step SH BY
      have HH := Lib.hid (hasI_c aH _ cH A p wY rfl SHY)
      have hz : decide (p ∈ A) = true ∨ G.length = 0 ∨ G2.length = 0 := by
        by_cases h1 : G.length = 0
        · exact .inr (.inl h1)
        · by_cases h2 : G2.length = 0
          · exact .inr (.inr h2)
          · exact .inl (decide_eq_true (by rw [← hp]; exact HUN.out _ h1 h2 (getD_mem hkl)))
      have HZ := Lib.hid hz
      obtain ⟨z, hzz⟩ : ∃ z, decide (p ∈ A) = z := ⟨_, rfl⟩
      rw [hzz] at HH HZ
      clear E8 B8 SG8 ownX hgX BX SUX zX ownY hgY BY SG SU SH Dr hz hzz hkl hp
      refine HH.out.mono ?_
      rintro e1 w8 ⟨rfl, rfl⟩
      cases z
      · rcases HZ.out with h | h | h
        · cases h
        · have h0 : ¬ (0 : Int) < (G.length : Int) := by omega
          clear h
          go_wp2_with fail
          go_roundw
          case rel => exact ⟨k + 1, by omega, by go_num, DY, SGY, SUY, SHY⟩
          case measure => simp [intOf]; omega
        · have h0 : ¬ (0 : Int) < (G2.length : Int) := by omega
          clear h
          by_cases hg : 0 < G.length
          · have hg' : (0 : Int) < (G.length : Int) := by omega
            go_wp2_with fail
            go_roundw
            case rel => exact ⟨k + 1, by omega, by go_num, DY, SGY, SUY, SHY⟩
            case measure => simp [intOf]; omega
          · have hg' : ¬ (0 : Int) < (G.length : Int) := by omega
            go_wp2_with fail
            go_roundw
            case rel => exact ⟨k + 1, by omega, by go_num, DY, SGY, SUY, SHY⟩
            case measure => simp [intOf]; omega
      · go_wp2_with fail
        go_roundw
        case rel => exact ⟨k + 1, by omega, by go_num, DY, SGY, SUY, SHY⟩
        case measure => simp [intOf]; omega
    · obtain rfl : k = G.length + G2.length := by omega
      have hki : ¬ ((G.length + G2.length : Nat) : Int) < (G.length : Int) + (G2.length : Int) := by omega
      go_wp2_with fail
      go_ret
      exact ⟨rfl, bstep hb1 Dr⟩

theorem own : ownKnob Try.prog.godebug = none := by kernel_rfl
theorem laidOut : laidOutB Try.prog = true := by kernel_rfl

set_option maxRecDepth 100000 in
theorem lifted (os : Os) (started : os.Started) (H : Type) (enc : TypeId × Value → H) :
    ReturnsInHanded {} Try.checked os 5 .any (Rows.fnDeriveUnionSpec.pre6 enc Try.prog Try.f5 Rows.fnDeriveUnionRow.domain false) (Rows.fnDeriveUnionSpec.post enc Try.prog Try.f5 false true false false) := by
  refine returnsInHanded_of_change (C := Try.checked) own started (by kernel_rfl) Try.func5
    (ChangeSpec.witness6 (enc := enc) (C := Try.checked) false ⟨#[], #[.slice none 0 0, .slice none 0 0], []⟩ 8 (by kernel_rfl) (by kernel_rfl) (by kernel_rfl) (by kernel_rfl)) ?_
  intro W base args ds gs before hval0 hW hcnd _
  have hval : ∀ (j : Nat) t v, Try.f5.params[j]? = some t → args[j]? = some v → Value.okWide Try.prog W .any base t v := hval0
  have hW' := hW
  obtain ⟨p, q, hA0, hV, rfl, hfz, hnd⟩ := hW
  have hA : DataW.TrodAll enc Try.prog W 0 (fun _ => true) true Try.f5.params.toList args.toList ds p := hA0
  rw [Try.params5] at hA hval
  obtain ⟨v0, vs0, d0, ds0, p0, q0, hargs, rfl, rfl, h0, r0⟩ := trodAll_cons hA
  obtain ⟨v1, vs1, d1, ds1, p1, q1, rfl, rfl, rfl, h1, r1⟩ := trodAll_cons r0
  obtain ⟨rfl, rfl, rfl⟩ := trodAll_nil r1
  obtain rfl : args = #[v0, v1] := by cases args; simp_all
  obtain ⟨rfl, rfl⟩ := trodVars_none hV
  have k0 := h0
  have lt0 : ∀ x ∈ p0, x.block < W.heap.size := by obtain ⟨m, hm⟩ := k0; exact DataW.trod_lt m _ _ _ hm
  have k1 := h1
  have lt1 : ∀ x ∈ p1, x.block < W.heap.size := by obtain ⟨m, hm⟩ := k1; exact DataW.trod_lt m _ _ _ hm
  obtain ⟨a0, len0, cap0, rfl⟩ := okWide_slice Try.underlying22 (hval 0 22 v0 rfl rfl)
  obtain ⟨z0, w0⟩ : ∃ zs, IsRow .u8 W a0 len0 cap0 zs := by
    obtain ⟨fuel, hf⟩ := h0
    rcases open_ints Try.underlying22 Try.underlying5 (by kernel_rfl) hf with ⟨hcs, _⟩ | ⟨x, l, c, zs, hcs, _, hl, hm, hz, _, hcell, hwz⟩
    · simp [Value.cells] at hcs
      obtain ⟨rfl, rfl, rfl⟩ := hcs
      exact ⟨[], .inl ⟨rfl, rfl, rfl, rfl⟩⟩
    · simp [Value.cells] at hcs
      obtain ⟨rfl, rfl, rfl⟩ := hcs
      exact ⟨zs, .inr ⟨_, rfl, hl, hm, by simpa using hz, hcell, hwz⟩⟩
  obtain ⟨a1, len1, cap1, rfl⟩ := okWide_slice Try.underlying22 (hval 1 22 v1 rfl rfl)
  obtain ⟨z1, w1⟩ : ∃ zs, IsRow .u8 W a1 len1 cap1 zs := by
    obtain ⟨fuel, hf⟩ := h1
    rcases open_ints Try.underlying22 Try.underlying5 (by kernel_rfl) hf with ⟨hcs, _⟩ | ⟨x, l, c, zs, hcs, _, hl, hm, hz, _, hcell, hwz⟩
    · simp [Value.cells] at hcs
      obtain ⟨rfl, rfl, rfl⟩ := hcs
      exact ⟨[], .inl ⟨rfl, rfl, rfl, rfl⟩⟩
    · simp [Value.cells] at hcs
      obtain ⟨rfl, rfl, rfl⟩ := hcs
      exact ⟨zs, .inr ⟨_, rfl, hl, hm, by simpa using hz, hcell, hwz⟩⟩
  clear hA0 hval0
  refine (walk a0 len0 cap0 z0 a1 len1 cap1 z1 W w0 w1).mono fun e W' ⟨he, bel⟩ => ?_
  subst he
  exact ⟨_, rfl, _, _, _, [], _, [], hW', trodAll_mk1 (shut_bool Try.underlying4 _), (trodAll_cons_mk (Below.trod laidOut (by kernel_rfl) (of_decide_eq_true (by kernel_rfl)) k0 bel lt0) (trodAll_cons_mk (Below.trod laidOut (by kernel_rfl) (of_decide_eq_true (by kernel_rfl)) k1 bel lt1) trodAll_mk0)), rfl, bel.frame _, fun h => by cases h⟩

theorem over : Rows.fnDeriveUnionRow.holds Try.pinned (OpenSpec.ofChange Rows.fnDeriveUnionSpec) :=
  OpenClaim.holds_of_wide 5 Try.f5 rfl rfl rfl rfl rfl rfl rfl ⟨rfl, rfl, rfl, rfl, rfl⟩ rfl rfl rfl rfl rfl (by kernel_rfl) Try.func5 (by kernel_rfl)
    (of_decide_eq_true (by kernel_rfl)) (by unfold Func.isWrapper; first | (rw [if_pos (by decide +kernel)]; kernel_rfl) | (rw [if_neg (by decide +kernel)]; exact ⟨rfl, rfl⟩))
    (fun os started H enc _ => lifted os started H enc)

/-- The given statement. -/
theorem proved : Rows.FnDeriveUnionSaid := over
end Go.Proofs.Ytdnkopnhpffcdaa.fnDeriveUnion
