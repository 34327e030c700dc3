/- A guard protects an atom on its own.
   No condition: it holds for every input. -/
import Derived.Test.YtdnkopnhpffcdaaRows
import Derived.WalkKit
import Derived.ProofKit
import Derived.OpenShut
import Derived.ShutString
import Derived.ChangeOld
import Derived.Below
import Derived.Lib.SmallJoins
import Derived.Test.YtdnkopnhpffcdaaVm
namespace Go.Proofs.Ytdnkopnhpffcdaa.fnGuards
open Go.ChangeShapes Go.WideShapes Go.ChangeAt Go.RowKit Go.Joins
open Go.ChangeMaps (open_string shut_string)
set_option linter.unusedVariables false

set_option maxHeartbeats 4000000 in
theorem walk (a0 : Option Addr) (len0 cap0 : Nat) (z0 : List Int) (w : World) (w0 : IsRow .u8 w a0 len0 cap0 z0) :
    Calls Try.prog 8 #[.slice a0 len0 cap0] w fun e w' => e = .returned (.bool true) ∧ Below w.heap.size w w' := by
  by_cases hb : (1048576 : Int) < (len0 : Int)
  · go_enter Try.func8, Try.ntmps8
    go_wp2
    go_ret
    exact ⟨rfl, Below.refl _ _⟩
  have HD := Lib.hid (draw_grd w a0 len0 cap0 z0 w0)
  clear w0
  go_enter Try.func8, Try.ntmps8
  go_wp2_with fail
  refine HD.out.mono ?_
  rintro e1 w1 ⟨bs, ab, c, L, ak, ck, x, rfl, hb1, hl⟩
  have HL := Lib.hid hl
  have hl10 := hl.1
  have hL4 := hl.2.1
  have D1 := Below.refl w1.heap.size w1
  clear HD hl
  have HI := Lib.hid (fun (w' : World) (D : Below w1.heap.size w1 w') => grd_impl ab ak bs.length c L.length ck bs L x w' (lies_ns HL.out D) rfl (lies_kn HL.out D))
  have HP := Lib.hid (fun (w' : World) (D : Below w1.heap.size w1 w') => grd_spec ab ak bs.length c L.length ck bs L x w' (lies_ns HL.out D) rfl (lies_kn HL.out D))
  have hgl := guardL_len bs L x
  obtain ⟨G, hG⟩ : ∃ G, guardL bs L x = G := ⟨_, rfl⟩
  rw [hG] at HI HP hgl
  have HG := Lib.hid hG
  clear hG
  go_wp2_with fail
  refine (HI.out w1 D1).mono ?_
  rintro e1 w2 ⟨aG, cG, rfl, hb2, own2⟩
  have D2 := bstep D1 hb2
  have SG2 := goti_sl own2 (by omega)
  go_wp2_with fail
  refine (HP.out w2 D2).mono ?_
  rintro e1 w3 ⟨aQ, cQ, rfl, hb3, own3⟩
  have D3 := bstep D2 hb3
  have SG3 := sl_step SG2 hb3
  have SQ3 := goti_sl own3 (by omega)
  clear own2 own3 SG2
  go_wp2_with fail
  refine (sameI_c _ _ _ _ _ G w3 SG3 SQ3).mono ?_
  rintro e1 w4 ⟨rfl, hb4⟩
  have D4 := bstep D3 hb4
  have SG4 := sl_step SG3 hb4
  have SQ4 := sl_step SQ3 hb4
  clear SG3 SQ3
  have HT := Lib.hid (fun (w' : World) (D : Below w1.heap.size w1 w') => drv_impl ab ak bs.length c L.length ck bs L x w' (lies_ns HL.out D) rfl (lies_kn HL.out D))
  obtain ⟨j0, hj0, gz0, gs0, gy0⟩ := info_parts infoBx
  have GI := Lib.hid hj0
  have GZ := Lib.hid gz0
  have GZ1 := Lib.hid gs0
  have GY := Lib.hid gy0
  clear hj0 gz0 gs0 gy0
  have HV := Lib.hid (bvalid_spec ab bs.length c bs w4 (lies_ns HL.out D4))
  obtain ⟨v, hv⟩ : ∃ v, boxesOk bs = v := ⟨_, rfl⟩
  rw [hv] at HV
  have HVV := Lib.hid hv
  clear hv
  go_wp2_with fail
  refine HV.out.mono ?_
  rintro e1 w5 ⟨rfl, rfl⟩
  cases v
  · skip
    go_wp2_with fail
    refine (sameI_c _ _ _ _ _ G w4 SG4 SQ4).mono ?_
    rintro e1 w5 ⟨rfl, hb5⟩
    have D5 := bstep D4 hb5
    go_wp2_with fail
    go_ret
    exact ⟨rfl, bstep hb1 D5⟩
  have D4' := D4
  have SG4' := SG4
  obtain ⟨d, hd⟩ : ∃ d, drvOk bs L x = d := ⟨_, rfl⟩
  rw [hd] at HT
  have HDD := Lib.hid hd
  clear SQ4 SG4 D4 D1 D2 D3 hb2 hb3 hb4 hd
  go_wp2_with fail
  go_loopw [8] (fun i wr => ∃ y : Nat, y ≤ 20 ∧ i = .int .i64 ((y : Int) + 1) ∧ Below w1.heap.size w1 wr ∧ Sl 1 wr wr.heap.size aG G.length (inG G)) (fun i _ => 22 - (intOf i).toNat)
  case atStart => exact ⟨0, by omega, rfl, D4', SG4'⟩
  case round =>
    clear D4' SG4'
    obtain ⟨y, hy, rfl, D0, SG0⟩ := hrel
    by_cases hyl : y < 20
    · have hyi : (y : Int) + 1 ≤ 20 := by omega
      have HGP := Lib.hid (guard_pick (bs := bs) (kn := L) (x := x) (key := (y : Int) + 1) HVV.out (by omega))
      rw [HG.out, HDD.out] at HGP
      have E5 := Blk.new wr #[] 33
      have Be := bpush (Below.refl wr.heap.size wr) (Obj.cells #[] 33)
      have D5 := bstep D0 Be
      have some5 := some_emp E5 (Nat.le_refl _)
      have SG5 := sl_step SG0 Be
      have d0 := D0.size
      obtain ⟨q, hq⟩ : ∃ q : Int → Bool, q = fun k => !decide (k = (y : Int) + 1) := ⟨_, rfl⟩
      have HQ : RowKit.Hid (∀ k, q k = (k != (y : Int) + 1)) := Lib.hid (fun k => by rw [hq]; by_cases e : k = (y : Int) + 1 <;> simp [e])
      rw [← hq] at HGP
      have SG0' := SG0
      clear D0 SG0 Be E5 hq
      go_wp2_with fail
      obtain ⟨wz, hwz⟩ : ∃ z, z = wr.alloc (Obj.cells #[] 33) := ⟨_, rfl⟩
      have hsz : wr.heap.size ≤ wz.heap.size := by rw [hwz]; simp
      rw [← hwz] at D5 some5 SG5 ⊢
      obtain ⟨B0, hB0⟩ : ∃ B0, B0 = wr.heap.size := ⟨_, rfl⟩
      rw [← hB0] at some5 d0 hsz ⊢
      have SGX : Sl 1 wz B0 aG G.length (inG G) := by rw [hB0, hwz]; exact SG0'.below (bpush (Below.refl _ _) _)
      clear hwz hB0
      go_loopw [9, 10] (fun v i wr => ∃ (k : Nat) (bl : BL), k ≤ bs.length ∧ i = .int .i64 k ∧ Below w1.heap.size w1 wr ∧ B0 ≤ wr.heap.size ∧ Sl 1 wr B0 aG G.length (inG G) ∧ wr.ownsRow B0 33 2 v bl.length (bxC bl) ∧ boxesOf bl = pickL q (bs.take k) ∧ ∀ t ∈ bl, t.2.1.length ≤ t.2.2.2 ∧ Sl 1 wr w1.heap.size t.2.2.1 t.2.1.length (inG t.2.1)) (fun _ i _ => bs.length - (intOf i).toNat)
      case atStart => exact ⟨0, [], by omega, rfl, D5, hsz, SGX, some5, rfl, fun t m => by cases m⟩
      case round =>
        clear D5 SG5 SGX some5 hsz
        obtain ⟨k, bl, hk, rfl, Dr, sz4, SG, someR, hpk, hin⟩ := hrel
        have szr := Dr.size
        by_cases hlt : k < bs.length
        · have hki : (k : Int) < (bs.length : Int) := by omega
          obtain ⟨b, off, a', c', rfl, hB, x0, x1, hc', hsl⟩ := (lies_ns0 HL.out Dr).at hlt
          have HPK := Lib.hid hpk
          have HIN := Lib.hid hin
          have HPY := Lib.hid (fun h => pickL_yes (q := q) (bs := bs) (k := k) hlt h)
          have HPN := Lib.hid (fun h => pickL_no (q := q) (bs := bs) (k := k) hlt h)
          obtain ⟨bx, hbx⟩ : ∃ p, bs.getD k (0, []) = p := ⟨_, rfl⟩
          rw [hbx] at x0 x1 hc' hsl HPY HPN
          have HSL := Lib.hid hsl
          have HHC := Lib.hid hc'
          have qb := World.block_lt_of_cell? _ _ x0
          have hqk := HQ.out bx.1
          cases hz : q bx.1
          · have HK := Lib.hid (HPN.out hz)
            rw [hz] at hqk
            have hqk' : (bx.1 != (y : Int) + 1) = false := hqk.symm
            clear hbx hpk hin hsl hc' hz hqk
            go_wp2_with fail
            go_roundw
            case rel => exact ⟨k + 1, bl, by omega, by go_num, Dr, sz4, SG, someR, by rw [HK.out]; exact HPK.out, HIN.out⟩
            case measure => simp [intOf]; omega
          · have HK := Lib.hid (HPY.out hz)
            rw [hz] at hqk
            have hqk' : (bx.1 != (y : Int) + 1) = true := hqk.symm
            have own1 := someR.alloc (Obj.cells #[.int .i64 bx.1, .slice a' bx.2.length c'] 33)
            have N1 := Blk.new wr #[.int .i64 bx.1, .slice a' bx.2.length c'] 33
            have hlb : bl.length ≤ k := by have e : (boxesOf bl).length = bl.length := bx_len bl; rw [← e, HPK.out]; exact pickL_len _ _ _
            clear hbx hpk hin hsl hc' hz hqk
            go_wp2_with (at_builtin; refine wpList_append_lies _ rfl _ _ _ rfl B0 _ j0 _ 2 32 Try.underlying23 GI.out GZ.out GZ1.out GY.out rfl (by omega) _ _ _ rfl own1 ⟨wr.heap.size, 0, none⟩ 1 1 [.int .i64 bx.1, .slice a' bx.2.length c'] rfl rfl (World.news_of_block N1) (by simp [Value.oneCell']) (by omega) (by unfold maxLen; omega) (by omega) (by simp; omega) (wr.heap.size + 1) (by simp) ?_; intro g2 cap2 w9 row9 hgrow hat hg2)
            have Bp := bpush (Below.refl wr.heap.size wr) (Obj.cells #[.int .i64 bx.1, .slice a' bx.2.length c'] 33)
            have hc9 := (chg_grown own1 hgrow).below (Nat.le_refl _) (by simp; omega)
            have B49 : Below B0 wr w9 := (Bp.mono (by omega)).trans hc9
            have D9 : Below w1.heap.size w1 w9 := Dr.trans (B49.mono d0)
            have row9' : w9.ownsRow B0 33 2 (.slice (some ⟨g2, 0, none⟩) (bl.length + 1) cap2) (bl ++ [(bx.1, bx.2, a', c')]).length (bxC (bl ++ [(bx.1, bx.2, a', c')])) := by rw [bxC_snoc, List.length_append]; exact row9
            have in9 : ∀ t ∈ bl ++ [(bx.1, bx.2, a', c')], t.2.1.length ≤ t.2.2.2 ∧ Sl 1 w9 w1.heap.size t.2.2.1 t.2.1.length (inG t.2.1) := by
              intro t m
              rcases List.mem_append.1 m with m | m
              · exact ⟨(HIN.out t m).1, (HIN.out t m).2.below (B49.mono d0)⟩
              · rw [List.mem_singleton.1 m]; exact ⟨HHC.out, HSL.out.below (B49.mono d0)⟩
            go_roundw
            case rel => exact ⟨k + 1, bl ++ [(bx.1, bx.2, a', c')], by omega, by go_num, D9, by have := B49.size; omega, SG.below B49, row9', by rw [HK.out, boxesOf_snoc, HPK.out], in9⟩
            case measure => simp [intOf]; omega
        · obtain rfl : k = bs.length := by omega
          have hbl : bl.length ≤ bs.length := by have e : (boxesOf bl).length = bl.length := bx_len bl; rw [← e, hpk]; exact pickL_len _ _ _
          obtain ⟨av, cv, rfl⟩ := row_form someR
          have NS := some_ns someR rfl (by omega) szr hin
          have HH := Lib.hid (hasI_c aG _ cG G ((y : Int) + 1) wr rfl (SG.mono (by omega)))
          have HF := Lib.hid (fun (w' : World) (B : Below wr.heap.size wr w') => drv_impl av ak bl.length cv L.length ck (boxesOf bl) L x w' ((NS.below B).mono B.size) rfl (lies_kn HL.out (bstep Dr B)))
          rw [hpk, List.take_length] at HF
          have SGr := SG.mono sz4
          obtain ⟨f, hf⟩ : ∃ f, drvOk (pickL q bs) L x = f := ⟨_, rfl⟩
          rw [hf] at HF HGP
          rw [HGP.out] at HH
          clear hpk hin SG someR NS hf
          go_wp2_with fail
          refine HH.out.mono ?_
          rintro e1 w8 ⟨rfl, rfl⟩
          go_wp2_with fail
          refine (HT.out _ Dr).mono ?_
          rintro e1 w8 ⟨rfl, hb8⟩
          have SG8 := sl_step SGr hb8
          have D8 := bstep Dr hb8
          have HF8 := Lib.hid (HF.out w8 hb8)
          clear HF SGr
          cases d
          · go_wp2_with fail
            go_roundw
            case rel => exact ⟨y + 1, by omega, by go_num, D8, SG8⟩
            case measure => simp [intOf]; omega
          · go_wp2_with fail
            refine HF8.out.mono ?_
            rintro e1 w9 ⟨rfl, hb9⟩
            cases f
            all_goals
              go_wp2_with fail
              go_roundw
              case rel => exact ⟨y + 1, by omega, by go_num, bstep D8 hb9, sl_step SG8 hb9⟩
              case measure => simp [intOf]; omega
    · obtain rfl : y = 20 := by omega
      go_wp2_with fail
      go_ret
      exact ⟨rfl, bstep hb1 D0⟩

theorem own : ownKnob Try.prog.godebug = none := by kernel_rfl
theorem laidOut : laidOutB Try.prog = true := by kernel_rfl

set_option maxRecDepth 100000 in
theorem lifted (os : Os) (started : os.Started) (H : Type) (enc : TypeId × Value → H) :
    ReturnsInHanded {} Try.checked os 8 .any (Rows.fnGuardsSpec.pre6 enc Try.prog Try.f8 Rows.fnGuardsRow.domain false) (Rows.fnGuardsSpec.post enc Try.prog Try.f8 false true false false) := by
  refine returnsInHanded_of_change (C := Try.checked) own started (by kernel_rfl) Try.func8
    (ChangeSpec.witness6 (enc := enc) (C := Try.checked) false ⟨#[], #[.slice none 0 0], []⟩ 8 (by kernel_rfl) (by kernel_rfl) (by kernel_rfl) (by kernel_rfl)) ?_
  intro W base args ds gs before hval0 hW hcnd _
  have hval : ∀ (j : Nat) t v, Try.f8.params[j]? = some t → args[j]? = some v → Value.okWide Try.prog W .any base t v := hval0
  have hW' := hW
  obtain ⟨p, q, hA0, hV, rfl, hfz, hnd⟩ := hW
  have hA : DataW.TrodAll enc Try.prog W 0 (fun _ => true) true Try.f8.params.toList args.toList ds p := hA0
  rw [Try.params8] at hA hval
  obtain ⟨v0, vs0, d0, ds0, p0, q0, hargs, rfl, rfl, h0, r0⟩ := trodAll_cons hA
  obtain ⟨rfl, rfl, rfl⟩ := trodAll_nil r0
  obtain rfl : args = #[v0] := by cases args; simp_all
  obtain ⟨rfl, rfl⟩ := trodVars_none hV
  have k0 := h0
  have lt0 : ∀ x ∈ p0, x.block < W.heap.size := by obtain ⟨m, hm⟩ := k0; exact DataW.trod_lt m _ _ _ hm
  obtain ⟨a0, len0, cap0, rfl⟩ := okWide_slice Try.underlying22 (hval 0 22 v0 rfl rfl)
  obtain ⟨z0, w0⟩ : ∃ zs, IsRow .u8 W a0 len0 cap0 zs := by
    obtain ⟨fuel, hf⟩ := h0
    rcases open_ints Try.underlying22 Try.underlying5 (by kernel_rfl) hf with ⟨hcs, _⟩ | ⟨x, l, c, zs, hcs, _, hl, hm, hz, _, hcell, hwz⟩
    · simp [Value.cells] at hcs
      obtain ⟨rfl, rfl, rfl⟩ := hcs
      exact ⟨[], .inl ⟨rfl, rfl, rfl, rfl⟩⟩
    · simp [Value.cells] at hcs
      obtain ⟨rfl, rfl, rfl⟩ := hcs
      exact ⟨zs, .inr ⟨_, rfl, hl, hm, by simpa using hz, hcell, hwz⟩⟩
  clear hA0 hval0
  refine (walk a0 len0 cap0 z0 W w0).mono fun e W' ⟨he, bel⟩ => ?_
  subst he
  exact ⟨_, rfl, _, _, _, [], _, [], hW', trodAll_mk1 (shut_bool Try.underlying4 _), (trodAll_cons_mk (Below.trod laidOut (by kernel_rfl) (of_decide_eq_true (by kernel_rfl)) k0 bel lt0) trodAll_mk0), rfl, bel.frame _, fun h => by cases h⟩

theorem over : Rows.fnGuardsRow.holds Try.pinned (OpenSpec.ofChange Rows.fnGuardsSpec) :=
  OpenClaim.holds_of_wide 8 Try.f8 rfl rfl rfl rfl rfl rfl rfl ⟨rfl, rfl, rfl, rfl, rfl⟩ rfl rfl rfl rfl rfl (by kernel_rfl) Try.func8 (by kernel_rfl)
    (of_decide_eq_true (by kernel_rfl)) (by unfold Func.isWrapper; first | (rw [if_pos (by decide +kernel)]; kernel_rfl) | (rw [if_neg (by decide +kernel)]; exact ⟨rfl, rfl⟩))
    (fun os started H enc _ => lifted os started H enc)

/-- The given statement. -/
theorem proved : Rows.FnGuardsSaid := over
end Go.Proofs.Ytdnkopnhpffcdaa.fnGuards
