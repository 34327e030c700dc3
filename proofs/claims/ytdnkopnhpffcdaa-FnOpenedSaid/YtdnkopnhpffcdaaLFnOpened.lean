/- Boxes that cannot be opened do not matter.
   No condition: it holds for every input. -/
import Derived.Test.YtdnkopnhpffcdaaRows
import Derived.WalkKit
import Derived.ProofKit
import Derived.OpenShut
import Derived.ShutString
import Derived.ChangeOld
import Derived.Below
import Derived.Lib.SmallJoins
import Derived.Test.YtdnkopnhpffcdaaVm
namespace Go.Proofs.Ytdnkopnhpffcdaa.fnOpened
open Go.ChangeShapes Go.WideShapes Go.ChangeAt Go.RowKit Go.Joins
open Go.ChangeMaps (open_string shut_string)
set_option linter.unusedVariables false

set_option maxHeartbeats 4000000 in
theorem walk (a0 : Option Addr) (len0 cap0 : Nat) (z0 : List Int) (w : World) (w0 : IsRow .u8 w a0 len0 cap0 z0) :
    Calls Try.prog 11 #[.slice a0 len0 cap0] w fun e w' => e = .returned (.bool true) ∧ Below w.heap.size w w' := by
  by_cases hb : (1048576 : Int) < (len0 : Int)
  · go_enter Try.func11, Try.ntmps11
    go_wp2
    go_ret
    exact ⟨rfl, Below.refl _ _⟩
  have HD := Lib.hid (draw_opn w a0 len0 cap0 z0 w0)
  clear w0
  go_enter Try.func11, Try.ntmps11
  go_wp2_with fail
  refine HD.out.mono ?_
  rintro e1 w1 ⟨bs, ab, c, L, ak, ck, rfl, hb1, hl⟩
  have HL := Lib.hid hl
  have hl10 := hl.1
  have hL4 := hl.2.1
  have D1 := Below.refl w1.heap.size w1
  clear HD hl
  have HI := Lib.hid (fun (w' : World) (D : Below w1.heap.size w1 w') => opn_impl ab ak bs.length c L.length ck bs L w' (lies_ns HL.out D) rfl (lies_kn HL.out D))
  have HP := Lib.hid (fun (w' : World) (D : Below w1.heap.size w1 w') => opn_spec ab ak bs.length c L.length ck bs L w' (lies_ns HL.out D) rfl (lies_kn HL.out D))
  have hgl := openI_len bs L
  obtain ⟨G, hG⟩ : ∃ G, openI bs L = G := ⟨_, rfl⟩
  rw [hG] at HI HP hgl
  have HG := Lib.hid hG
  clear hG
  go_wp2_with fail
  refine (HI.out w1 D1).mono ?_
  rintro e1 w2 ⟨aG, cG, rfl, hb2, own2⟩
  have D2 := bstep D1 hb2
  have SG2 := goti_sl own2 (by omega)
  go_wp2_with fail
  refine (HP.out w2 D2).mono ?_
  rintro e1 w3 ⟨aQ, cQ, rfl, hb3, own3⟩
  have D3 := bstep D2 hb3
  have SG3 := sl_step SG2 hb3
  have SQ3 := goti_sl own3 (by omega)
  clear own2 own3 SG2
  go_wp2_with fail
  refine (sameI_c _ _ _ _ _ G w3 SG3 SQ3).mono ?_
  rintro e1 w4 ⟨rfl, hb4⟩
  have D4 := bstep D3 hb4
  have SG4 := sl_step SG3 hb4
  have SQ4 := sl_step SQ3 hb4
  clear SG3 SQ3
  have HT := Lib.hid (fun (w' : World) (D : Below w1.heap.size w1 w') => derL_c ab ak bs.length c L.length ck bs L w' (lies_ns HL.out D) rfl (lies_kn HL.out D))
  obtain ⟨j0, hj0, gz0, gs0, gy0⟩ := info_parts infoBx
  have GI := Lib.hid hj0
  have GZ := Lib.hid gz0
  have GZ1 := Lib.hid gs0
  have GY := Lib.hid gy0
  clear hj0 gz0 gs0 gy0
  have HV := Lib.hid (bvalid_spec ab bs.length c bs w4 (lies_ns HL.out D4))
  obtain ⟨v, hv⟩ : ∃ v, boxesOk bs = v := ⟨_, rfl⟩
  rw [hv] at HV
  have HVV := Lib.hid hv
  clear hv
  go_wp2_with fail
  refine HV.out.mono ?_
  rintro e1 w5 ⟨rfl, rfl⟩
  cases v
  · skip
    go_wp2_with fail
    refine (sameI_c _ _ _ _ _ G w4 SG4 SQ4).mono ?_
    rintro e1 w5 ⟨rfl, hb5⟩
    have D5 := bstep D4 hb5
    go_wp2_with fail
    go_ret
    exact ⟨rfl, bstep hb1 D5⟩
  have HE := Lib.hid (derL_opened bs L HVV.out)
  have HM := Lib.hid (fun k hk => openI_mem (bs := bs) (kn := L) (k := k) hk)
  rw [HG.out] at HM
  have hdl := derL_len bs L
  have HT' := HT
  obtain ⟨T, hT⟩ : ∃ T, derL bs L = T := ⟨_, rfl⟩
  rw [hT] at HT' HE HM hdl
  clear hT HT HVV
  have E5 := Blk.new w4 #[] 33
  have D5 := bpush D4 (Obj.cells #[] 33)
  have some5 := some_emp E5 (Nat.le_refl _)
  have SG5 := sl_step SG4 (bpush (Below.refl w4.heap.size w4) (Obj.cells #[] 33))
  clear SQ4 hb2 hb3 hb4 E5
  go_wp2_with fail
  refine (HT'.out _ D5).mono ?_
  rintro e1 w6 ⟨aT, cT, rfl, hb6, ownT⟩
  have D6 := bstep D5 hb6
  have SG6 := sl_step SG5 hb6
  have ST6 := goti_sl ownT (by omega)
  have some6 := row_mono (row_below some5 hb6) (B' := w4.heap.size) (Nat.le_refl _)
  have hap : ∀ g, (Value.slice aT T.length cT).ownBlock = some g → g ≠ w4.heap.size := fun g h => by have := (ownT.lt _ h).1; simp at this; omega
  have SGB : Sl 1 w6 w4.heap.size aG G.length (inG G) := SG4.below ((bstep (bpush (Below.refl w4.heap.size w4) (Obj.cells #[] 33)) hb6))
  have HTo := Lib.hid (row_mono ownT (B' := w4.heap.size + 1) (by simp))
  have d4 := D4.size
  have z6 := hb6.size
  simp at z6
  clear D1 D2 D3 D5 SG4 SG5 some5 hb6 ownT hap
  go_wp2_with fail
  go_loopw [7, 9] (fun v i wr => ∃ (k : Nat) (bl : BL), k ≤ bs.length ∧ i = .int .i64 k ∧ Below w1.heap.size w1 wr ∧ w4.heap.size + 1 ≤ wr.heap.size ∧ Sl 1 wr w4.heap.size aG G.length (inG G) ∧ wr.ownsRow (w4.heap.size + 1) 3 1 (.slice aT T.length cT) T.length (ints T) ∧ wr.ownsRow w4.heap.size 33 2 v bl.length (bxC bl) ∧ boxesOf bl = pickL (fun k => decide (k ∈ T)) (bs.take k) ∧ ∀ t ∈ bl, t.2.1.length ≤ t.2.2.2 ∧ Sl 1 wr w1.heap.size t.2.2.1 t.2.1.length (inG t.2.1)) (fun _ i _ => bs.length - (intOf i).toNat)
  case atStart => exact ⟨0, [], by omega, rfl, D6, z6, SGB, HTo.out, some6, rfl, fun t m => by cases m⟩
  case round =>
    clear D6 SG6 ST6 SGB some6
    obtain ⟨k, bl, hk, rfl, Dr, sz4, SG, ownT, someR, hpk, hin⟩ := hrel
    have szr := Dr.size
    by_cases hlt : k < bs.length
    · have hki : (k : Int) < (bs.length : Int) := by omega
      obtain ⟨b, off, a', c', rfl, hB, x0, x1, hc', hsl⟩ := (lies_ns0 HL.out Dr).at hlt
      have hmk := HM.out k hlt
      have HPK := Lib.hid hpk
      have HIN := Lib.hid hin
      have HPY := Lib.hid (fun h => pickL_yes (q := fun k => decide (k ∈ T)) (bs := bs) (k := k) hlt h)
      have HPN := Lib.hid (fun h => pickL_no (q := fun k => decide (k ∈ T)) (bs := bs) (k := k) hlt h)
      obtain ⟨bx, hbx⟩ : ∃ p, bs.getD k (0, []) = p := ⟨_, rfl⟩
      rw [hbx] at x0 x1 hc' hsl hmk HPY HPN
      have HQ1 := Lib.hid (has_q aG _ cG G (k : Int) wr rfl (SG.mono (by omega)))
      have HQ2 := Lib.hid (has_q aT _ cT T bx.1 wr rfl (goti_sl ownT (by omega)))
      have HQ3 := Lib.hid (hasI_c aG G.length cG G (k : Int))
      have HSL := Lib.hid hsl
      have HHC := Lib.hid hc'
      have qb := World.block_lt_of_cell? _ _ x0
      obtain ⟨z, hz⟩ : ∃ z, decide (bx.1 ∈ T) = z := ⟨_, rfl⟩
      rw [hz] at hmk HQ2
      rw [hmk] at HQ1 HQ3
      have HZ := Lib.hid hz
      clear hbx hpk hin hz hmk hsl hc'
      go_wp2_with fail
      go_quiet ((first | (go_at_call 19; with_reducible exact HQ1.out _) | (go_at_call 19; with_reducible exact HQ2.out _)))
      have Bq := bdrewN (Below.refl wr.heap.size wr) nq
      have Dq := bstep Dr Bq
      have SGq := SG.below (Bq.mono (show w4.heap.size ≤ wr.heap.size by omega))
      have ownTq := row_below ownT Bq
      have someq := row_below someR Bq
      have x0q : (wr.drewN nq).cell? _ = _ := x0
      have x1q : (wr.drewN nq).cell? _ = _ := x1
      have szq : w4.heap.size + 1 ≤ (wr.drewN nq).heap.size := sz4
      have qbq : b < (wr.drewN nq).heap.size := qb
      have HSq := Lib.hid (HSL.out.below ((bdrewN (Below.refl wr.heap.size wr) nq).mono szr))
      have HINq := Lib.hid (fun t m => And.intro (HIN.out t m).1 ((HIN.out t m).2.below ((bdrewN (Below.refl wr.heap.size wr) nq).mono szr)))
      clear Dr SG ownT someR x0 x1 sz4 qb HQ1 HQ2 HSL HIN Bq
      obtain ⟨wq, hwq⟩ : ∃ x, x = wr.drewN nq := ⟨_, rfl⟩
      have szr' : w1.heap.size ≤ (wr.drewN nq).heap.size := szr
      rw [← hwq] at Dq SGq ownTq someq x0q x1q szq qbq HSq HINq szr' ⊢
      clear hwq szr
      have HR3 := Lib.hid (HQ3.out wq (by first | rfl | trivial) (SGq.mono (by omega)))
      clear HQ3
      go_wp2_with fail
      refine HR3.out.mono ?_
      rintro e1 w8 ⟨rfl, rfl⟩
      cases z
      · have HK := Lib.hid (HPN.out HZ.out)
        go_wp2_with fail
        go_roundw
        case rel => exact ⟨k + 1, bl, by omega, by go_num, Dq, szq, SGq, ownTq, someq, by rw [HK.out]; exact HPK.out, HINq.out⟩
        case measure => simp [intOf]; omega
      · have HK := Lib.hid (HPY.out HZ.out)
        have own1 := someq.alloc (Obj.cells #[.int .i64 bx.1, .slice a' bx.2.length c'] 33)
        have N1 := Blk.new wq #[.int .i64 bx.1, .slice a' bx.2.length c'] 33
        have hlb : bl.length ≤ k := by have e : (boxesOf bl).length = bl.length := bx_len bl; rw [← e, HPK.out]; exact pickL_len _ _ _
        go_wp2_with (at_builtin; refine wpList_append_lies _ rfl _ _ _ rfl w4.heap.size _ j0 _ 2 32 Try.underlying23 GI.out GZ.out GZ1.out GY.out rfl (by omega) _ _ _ rfl own1 ⟨wq.heap.size, 0, none⟩ 1 1 [.int .i64 bx.1, .slice a' bx.2.length c'] rfl rfl (World.news_of_block N1) (by simp [Value.oneCell']) (by omega) (by unfold maxLen; omega) (by omega) (by simp; omega) (wq.heap.size + 1) (by simp) ?_; intro g2 cap2 w9 row9 hgrow hat hg2)
        have Bp := bpush (Below.refl wq.heap.size wq) (Obj.cells #[.int .i64 bx.1, .slice a' bx.2.length c'] 33)
        have hc9 := (chg_grown own1 hgrow).below (Nat.le_refl _) (by simp; omega)
        have B49 : Below w4.heap.size wq w9 := (Bp.mono (by omega)).trans hc9
        have D9 : Below w1.heap.size w1 w9 := Dq.trans (B49.mono d4)
        have T9 := row_grown (ownTq.alloc (Obj.cells #[.int .i64 bx.1, .slice a' bx.2.length c'] 33)) hgrow (rows_ne (ownTq.alloc (Obj.cells #[.int .i64 bx.1, .slice a' bx.2.length c'] 33)) own1 (by decide))
        have row9' : w9.ownsRow w4.heap.size 33 2 (.slice (some ⟨g2, 0, none⟩) (bl.length + 1) cap2) (bl ++ [(bx.1, bx.2, a', c')]).length (bxC (bl ++ [(bx.1, bx.2, a', c')])) := by rw [bxC_snoc, List.length_append]; exact row9
        have in9 : ∀ t ∈ bl ++ [(bx.1, bx.2, a', c')], t.2.1.length ≤ t.2.2.2 ∧ Sl 1 w9 w1.heap.size t.2.2.1 t.2.1.length (inG t.2.1) := by
          intro t m
          rcases List.mem_append.1 m with m | m
          · exact ⟨(HINq.out t m).1, (HINq.out t m).2.below (B49.mono d4)⟩
          · rw [List.mem_singleton.1 m]; exact ⟨HHC.out, HSq.out.below (B49.mono d4)⟩
        go_roundw
        case rel => exact ⟨k + 1, bl ++ [(bx.1, bx.2, a', c')], by omega, by go_num, D9, by have := B49.size; omega, SGq.below B49, T9, row9', by rw [HK.out, boxesOf_snoc, HPK.out], in9⟩
        case measure => simp [intOf]; omega
    · obtain rfl : k = bs.length := by omega
      have hbl : bl.length ≤ bs.length := by have e : (boxesOf bl).length = bl.length := bx_len bl; rw [← e, hpk]; exact pickL_len _ _ _
      obtain ⟨av, cv, rfl⟩ := row_form someR
      have NS := some_ns someR rfl (by omega) szr hin
      have HF := Lib.hid (derL_c av ak bl.length cv L.length ck (boxesOf bl) L wr NS rfl (lies_kn HL.out Dr))
      rw [hpk, List.take_length, HE.out] at HF
      have ST := goti_sl ownT (by omega)
      clear hpk hin SG someR ownT NS
      go_wp2_with fail
      refine HF.out.mono ?_
      rintro e1 w8 ⟨aF, cF, rfl, hb8, ownF⟩
      have SF := goti_sl ownF (by omega)
      have ST8 := sl_step ST hb8
      clear ownF ST
      go_wp2_with fail
      refine (sameI_c _ _ _ _ _ T w8 SF ST8).mono ?_
      rintro e1 w9 ⟨rfl, hb9⟩
      go_wp2_with fail
      go_ret
      exact ⟨rfl, bstep hb1 (bstep (bstep Dr hb8) hb9)⟩

theorem own : ownKnob Try.prog.godebug = none := by kernel_rfl
theorem laidOut : laidOutB Try.prog = true := by kernel_rfl

set_option maxRecDepth 100000 in
theorem lifted (os : Os) (started : os.Started) (H : Type) (enc : TypeId × Value → H) :
    ReturnsInHanded {} Try.checked os 11 .any (Rows.fnOpenedSpec.pre6 enc Try.prog Try.f11 Rows.fnOpenedRow.domain false) (Rows.fnOpenedSpec.post enc Try.prog Try.f11 false true false false) := by
  refine returnsInHanded_of_change (C := Try.checked) own started (by kernel_rfl) Try.func11
    (ChangeSpec.witness6 (enc := enc) (C := Try.checked) false ⟨#[], #[.slice none 0 0], []⟩ 8 (by kernel_rfl) (by kernel_rfl) (by kernel_rfl) (by kernel_rfl)) ?_
  intro W base args ds gs before hval0 hW hcnd _
  have hval : ∀ (j : Nat) t v, Try.f11.params[j]? = some t → args[j]? = some v → Value.okWide Try.prog W .any base t v := hval0
  have hW' := hW
  obtain ⟨p, q, hA0, hV, rfl, hfz, hnd⟩ := hW
  have hA : DataW.TrodAll enc Try.prog W 0 (fun _ => true) true Try.f11.params.toList args.toList ds p := hA0
  rw [Try.params11] at hA hval
  obtain ⟨v0, vs0, d0, ds0, p0, q0, hargs, rfl, rfl, h0, r0⟩ := trodAll_cons hA
  obtain ⟨rfl, rfl, rfl⟩ := trodAll_nil r0
  obtain rfl : args = #[v0] := by cases args; simp_all
  obtain ⟨rfl, rfl⟩ := trodVars_none hV
  have k0 := h0
  have lt0 : ∀ x ∈ p0, x.block < W.heap.size := by obtain ⟨m, hm⟩ := k0; exact DataW.trod_lt m _ _ _ hm
  obtain ⟨a0, len0, cap0, rfl⟩ := okWide_slice Try.underlying22 (hval 0 22 v0 rfl rfl)
  obtain ⟨z0, w0⟩ : ∃ zs, IsRow .u8 W a0 len0 cap0 zs := by
    obtain ⟨fuel, hf⟩ := h0
    rcases open_ints Try.underlying22 Try.underlying5 (by kernel_rfl) hf with ⟨hcs, _⟩ | ⟨x, l, c, zs, hcs, _, hl, hm, hz, _, hcell, hwz⟩
    · simp [Value.cells] at hcs
      obtain ⟨rfl, rfl, rfl⟩ := hcs
      exact ⟨[], .inl ⟨rfl, rfl, rfl, rfl⟩⟩
    · simp [Value.cells] at hcs
      obtain ⟨rfl, rfl, rfl⟩ := hcs
      exact ⟨zs, .inr ⟨_, rfl, hl, hm, by simpa using hz, hcell, hwz⟩⟩
  clear hA0 hval0
  refine (walk a0 len0 cap0 z0 W w0).mono fun e W' ⟨he, bel⟩ => ?_
  subst he
  exact ⟨_, rfl, _, _, _, [], _, [], hW', trodAll_mk1 (shut_bool Try.underlying4 _), (trodAll_cons_mk (Below.trod laidOut (by kernel_rfl) (of_decide_eq_true (by kernel_rfl)) k0 bel lt0) trodAll_mk0), rfl, bel.frame _, fun h => by cases h⟩

theorem over : Rows.fnOpenedRow.holds Try.pinned (OpenSpec.ofChange Rows.fnOpenedSpec) :=
  OpenClaim.holds_of_wide 11 Try.f11 rfl rfl rfl rfl rfl rfl rfl ⟨rfl, rfl, rfl, rfl, rfl⟩ rfl rfl rfl rfl rfl (by kernel_rfl) Try.func11 (by kernel_rfl)
    (of_decide_eq_true (by kernel_rfl)) (by unfold Func.isWrapper; first | (rw [if_pos (by decide +kernel)]; kernel_rfl) | (rw [if_neg (by decide +kernel)]; exact ⟨rfl, rfl⟩))
    (fun os started H enc _ => lifted os started H enc)

/-- The given statement. -/
theorem proved : Rows.FnOpenedSaid := over
end Go.Proofs.Ytdnkopnhpffcdaa.fnOpened
