/- Forgotten tickets are too old to be accepted.
   No condition: it holds for every input. -/
import Derived.Test.YtpphabiloplnoaaRows
import Derived.WalkKit
import Derived.ProofKit
import Derived.OpenShut
import Derived.ShutString
import Derived.ChangeOld
import Derived.Below
import Derived.Lib.SmallJoins
import Derived.Test.YtpphabiloplnoaaHd
import Derived.Test.YtpphabiloplnoaaHf
import Derived.Test.YtpphabiloplnoaaGj
import Derived.Test.YtpphabiloplnoaaGt
namespace Go.Proofs.Ytpphabiloplnoaa.fnRegisterForget
open Go.ChangeShapes Go.WideShapes Go.ChangeAt Go.RowKit Go.Joins
open Go.ChangeMaps (open_string shut_string)
set_option linter.unusedVariables false

set_option maxHeartbeats 4000000 in
theorem walk (a0 : Option Addr) (len0 cap0 : Nat) (z0 : List Int) (w : World) (w0 : IsRow .u8 w a0 len0 cap0 z0) :
    Calls Try.prog 10 #[.slice a0 len0 cap0] w fun e w' => e = .returned (.bool true) ∧ Below w.heap.size w w' := by
  by_cases hb : (1048576 : Int) < (len0 : Int)
  · go_enter Try.func10, Try.ntmps10
    go_wp2
    go_ret
    exact ⟨rfl, Below.refl _ _⟩
  have HD := Lib.hid (draw_rtick w a0 len0 cap0 z0 w0)
  clear w0
  go_enter Try.func10, Try.ntmps10
  go_wp2_with fail
  refine HD.out.mono ?_
  rintro e1 w1 ⟨now, d, l, sa, c, rfl, hl9, hlc, ⟨hn1, hn2⟩, ⟨hd1, hd2⟩, hb1, SX1⟩
  clear HD
  have HI := Lib.hid (fun (w' : World) (S : Sl 2 w' w'.heap.size sa l.length (tkG l)) => rtick_impl now d sa l.length c l w' rfl S)
  have HP := Lib.hid (fun (w' : World) (S : Sl 2 w' w'.heap.size sa l.length (tkG l)) => rtick_spec now d sa l.length c l w' rfl S)
  obtain ⟨N, hN⟩ : ∃ x, x = tickN now l d := ⟨_, rfl⟩
  obtain ⟨L, hL⟩ : ∃ x, x = tickS now l d := ⟨_, rfl⟩
  obtain ⟨V, hV⟩ : ∃ x, x = tickOk now l d := ⟨_, rfl⟩
  rw [← hN, ← hL, ← hV] at HI HP
  have HN := Lib.hid hN
  have HL := Lib.hid hL
  have HV := Lib.hid hV
  clear hN hL hV
  have SX2 := sl_push (SX1) (Obj.cells #[.int .i64 now, .slice sa l.length c] 34)
  have hb2 := bpush (hb1) (Obj.cells #[.int .i64 now, .slice sa l.length c] 34)
  have BX2 := Blk.new w1 #[.int .i64 now, .slice sa l.length c] 34
  clear SX1 hb1
  go_wp2_with fail
  obtain ⟨w2, hw2⟩ : ∃ x, x = w1.alloc (Obj.cells #[.int .i64 now, .slice sa l.length c] 34) := ⟨_, rfl⟩
  rw [← hw2] at BX2 SX2 hb2 ⊢
  clear hw2
  refine (HI.out w2 SX2).mono ?_
  rintro e1 w3 ⟨aO, cO, rfl, hn3, OO⟩
  have BX3 := BX2.below hn3
  have SX3 := sl_step SX2 hn3
  have hb3 := bstep hb2 hn3
  have SO3 := OO.sl
  clear BX2 SX2 hb2 hn3 OO
  have cX0 := BX3.cell 0 rfl
  have cX1 := BX3.cell 1 rfl
  have qX := BX3.lt
  have BX4 := BX3.alloc (Obj.cells #[.int .i64 N, .slice aO L.length cO] 34)
  have SX4 := sl_push (SX3) (Obj.cells #[.int .i64 N, .slice aO L.length cO] 34)
  have SO4 := sl_push (SO3) (Obj.cells #[.int .i64 N, .slice aO L.length cO] 34)
  have hb4 := bpush (hb3) (Obj.cells #[.int .i64 N, .slice aO L.length cO] 34)
  have BO4 := Blk.new w3 #[.int .i64 N, .slice aO L.length cO] 34
  go_wp2_with fail
  obtain ⟨w4, hw4⟩ : ∃ x, x = w3.alloc (Obj.cells #[.int .i64 N, .slice aO L.length cO] 34) := ⟨_, rfl⟩
  rw [← hw4] at BX4 BO4 SX4 SO4 hb4 ⊢
  clear hw4
  clear cX0 cX1 qX
  clear BX3 SX3 SO3 hb3
  refine (HP.out w4 SX4).mono ?_
  rintro e1 w5 ⟨aQ, cQ, rfl, hn5, OQ⟩
  have BX5 := BX4.below hn5
  have BO5 := BO4.below hn5
  have SX5 := sl_step SX4 hn5
  have SO5 := sl_step SO4 hn5
  have hb5 := bstep hb4 hn5
  have SQ5 := OQ.sl
  clear BX4 BO4 SX4 SO4 hb4 hn5 OQ
  have cX0 := BX5.cell 0 rfl
  have cX1 := BX5.cell 1 rfl
  have qX := BX5.lt
  have cO0 := BO5.cell 0 rfl
  have cO1 := BO5.cell 1 rfl
  have qO := BO5.lt
  have BX6 := BX5.alloc (Obj.cells #[.int .i64 N, .slice aQ L.length cQ] 34)
  have BO6 := BO5.alloc (Obj.cells #[.int .i64 N, .slice aQ L.length cQ] 34)
  have SX6 := sl_push (SX5) (Obj.cells #[.int .i64 N, .slice aQ L.length cQ] 34)
  have SO6 := sl_push (SO5) (Obj.cells #[.int .i64 N, .slice aQ L.length cQ] 34)
  have SQ6 := sl_push (SQ5) (Obj.cells #[.int .i64 N, .slice aQ L.length cQ] 34)
  have hb6 := bpush (hb5) (Obj.cells #[.int .i64 N, .slice aQ L.length cQ] 34)
  have BQ6 := Blk.new w5 #[.int .i64 N, .slice aQ L.length cQ] 34
  cases V
  · skip
    go_wp2_with fail
    obtain ⟨w6, hw6⟩ : ∃ x, x = w5.alloc (Obj.cells #[.int .i64 N, .slice aQ L.length cQ] 34) := ⟨_, rfl⟩
    rw [← hw6] at BX6 BO6 BQ6 SX6 SO6 SQ6 hb6 ⊢
    clear hw6
    clear cX0 cX1 qX cO0 cO1 qO
    clear BX5 BO5 SX5 SO5 SQ5 hb5
    refine (sameReg_c _ _ _ _ _ _ _ w6 SO6 SQ6).mono ?_
    rintro e1 w7 ⟨rfl, hn7⟩
    have BX7 := BX6.below hn7
    have BO7 := BO6.below hn7
    have BQ7 := BQ6.below hn7
    have SX7 := sl_step SX6 hn7
    have SO7 := sl_step SO6 hn7
    have SQ7 := sl_step SQ6 hn7
    have hb7 := bstep hb6 hn7
    clear BX6 BO6 BQ6 SX6 SO6 SQ6 hb6 hn7
    have cO0 := BO7.cell 0 rfl
    have cO1 := BO7.cell 1 rfl
    have qO := BO7.lt
    have cQ0 := BQ7.cell 0 rfl
    have cQ1 := BQ7.cell 1 rfl
    have qQ := BQ7.lt
    go_wp2_with fail
    clear cO0 cO1 qO cQ0 cQ1 qQ
    refine (sameReg_c _ _ _ _ _ _ _ w7 SO7 SQ7).mono ?_
    rintro e1 w8 ⟨rfl, hn8⟩
    have BX8 := BX7.below hn8
    have BO8 := BO7.below hn8
    have BQ8 := BQ7.below hn8
    have SX8 := sl_step SX7 hn8
    have SO8 := sl_step SO7 hn8
    have SQ8 := sl_step SQ7 hn8
    have hb8 := bstep hb7 hn8
    clear BX7 BO7 BQ7 SX7 SO7 SQ7 hb7 hn8
    go_wp2_with fail
    go_ret
    exact ⟨rfl, hb8⟩
  · have hv := HV.out.symm
    obtain ⟨E1, E2⟩ := tick_yes hv
    have E1 := (HN.out.trans E1).symm
    have E2 := (HL.out.trans E2).symm
    subst E1
    subst E2
    have HV1 := Lib.hid hv
    clear hv HN HL HV
    go_wp2_with fail
    obtain ⟨w6, hw6⟩ : ∃ x, x = w5.alloc (Obj.cells #[.int .i64 d, .slice aQ (tickL d l).length cQ] 34) := ⟨_, rfl⟩
    rw [← hw6] at BX6 BO6 BQ6 SX6 SO6 SQ6 hb6 ⊢
    clear hw6
    clear cX0 cX1 qX cO0 cO1 qO
    clear BX5 BO5 SX5 SO5 SQ5 hb5
    refine (sameReg_c _ _ _ _ _ _ _ w6 SO6 SQ6).mono ?_
    rintro e1 w7 ⟨rfl, hn7⟩
    have BX7 := BX6.below hn7
    have BO7 := BO6.below hn7
    have BQ7 := BQ6.below hn7
    have SX7 := sl_step SX6 hn7
    have SO7 := sl_step SO6 hn7
    have SQ7 := sl_step SQ6 hn7
    have hb7 := bstep hb6 hn7
    clear BX6 BO6 BQ6 SX6 SO6 SQ6 hb6 hn7
    have FX := BX7
    have FO := BO7
    have FSX := SX7
    have FSO := SO7
    have HB := hb7
    clear BX7 BO7 BQ7 SX7 SO7 SQ7 hb7
    go_wp2_with fail
    go_loopw [9] (fun i wr => ∃ k : Nat, k ≤ l.length ∧ i = .int .i64 k ∧ Below w.heap.size w wr ∧ Blk wr w1.heap.size #[.int .i64 now, .slice sa l.length c] 34 ∧ Blk wr w3.heap.size #[.int .i64 d, .slice aO (tickL d l).length cO] 34 ∧ Sl 2 wr wr.heap.size sa l.length (tkG l) ∧ Sl 2 wr wr.heap.size aO (tickL d l).length (tkG (tickL d l))) (fun i _ => l.length - (intOf i).toNat)
    case atStart => exact ⟨0, by omega, rfl, HB, FX, FO, FSX, FSO⟩
    case round =>
      obtain ⟨k, hk, rfl, HBr, RX, RO, RSX, RSO⟩ := hrel
      clear HB FX FO FSX FSO
      have x0 := RX.cell 0 rfl
      have x1 := RX.cell 1 rfl
      have o0 := RO.cell 0 rfl
      have o1 := RO.cell 1 rfl
      have qX := RX.lt
      have qO := RO.lt
      by_cases hlt : k < l.length
      · have hki : (k : Int) < (l.length : Int) := by omega
        obtain ⟨b, off, rfl, hB, hc⟩ := RSX.at hlt
        have y0 := hc k hlt 0 (by omega)
        have y1 := hc k hlt 1 (by omega)
        have hf := forget_t HV1.out hlt
        obtain ⟨p, hp⟩ : ∃ p, l.getD k (0, 0) = p := ⟨_, rfl⟩
        rw [hp] at hf
        simp only [tkG, Nat.add_zero, hp] at y0 y1
        clear hc hp
        have HC := Lib.hid (fun (w' : World) (S : Sl 2 w' w'.heap.size aO (tickL d l).length (tkG (tickL d l))) => rtry_impl d p aO (tickL d l).length cO (tickL d l) w' rfl S)
        rw [hf] at HC
        have HCa := Lib.hid (HC.out wr.drew (RSO.below (bdrew (Below.refl wr.heap.size wr))))
        have HCb := Lib.hid (HC.out (wr.alloc (Obj.cells #[.int .i64 0, .slice none 0 0] 34)).drew ((sl_push RSO (Obj.cells #[.int .i64 0, .slice none 0 0] 34)).below (bdrew (Below.refl (wr.alloc (Obj.cells #[.int .i64 0, .slice none 0 0] 34)).heap.size (wr.alloc (Obj.cells #[.int .i64 0, .slice none 0 0] 34))))))
        unfold Stepped at HCa HCb
        have Da := bdrew (Below.refl wr.heap.size wr)
        have Db := bdrew (bpush (Below.refl wr.heap.size wr) (Obj.cells #[.int .i64 0, .slice none 0 0] 34))
        have hkeep : ∀ w', Below wr.heap.size wr w' → w'.cell? ⟨w1.heap.size, 0, none⟩ = some (.int .i64 now) ∧ w'.cell? ⟨w1.heap.size, 1, none⟩ = some (.slice (some ⟨b, off, none⟩) l.length c) ∧ w'.cell? ⟨w3.heap.size, 0, none⟩ = some (.int .i64 d) ∧ w'.cell? ⟨w3.heap.size, 1, none⟩ = some (.slice aO (tickL d l).length cO) ∧ w'.cell? ⟨b, off + k * 2, none⟩ = some (.int .i64 p.1) ∧ w'.cell? ⟨b, off + k * 2 + 1, none⟩ = some (.int .i64 p.2) :=
          fun w' h => ⟨bkeep h x0, bkeep h x1, bkeep h o0, bkeep h o1, bkeep h y0, bkeep h y1⟩
        have HK := Lib.hid hkeep
        clear HC hf hkeep
        go_wp2_with fail
        go_region_held3 (fun w' => w'.cell? ⟨w1.heap.size, 0, none⟩ = some (.int .i64 now) ∧ w'.cell? ⟨w1.heap.size, 1, none⟩ = some (.slice (some ⟨b, off, none⟩) l.length c) ∧ w'.cell? ⟨w3.heap.size, 0, none⟩ = some (.int .i64 d) ∧ w'.cell? ⟨w3.heap.size, 1, none⟩ = some (.slice aO (tickL d l).length cO) ∧ w'.cell? ⟨b, off + k * 2, none⟩ = some (.int .i64 p.1) ∧ w'.cell? ⟨b, off + k * 2 + 1, none⟩ = some (.int .i64 p.2))
          (first | exact HK.out _ (Below.refl _ _) | exact HK.out _ Da | exact HK.out _ Db | exact HK.out _ D8 | exact HK.out _ (bpush D8 _) | exact HK.out _ (Below.setCell (Below.setCell D8 (Nat.le_refl _) _) (Nat.le_refl _) _) | go_keep)
          (first
            | (go_at_call 18; with_reducible refine HCa.out.mono ?_; rintro e1 w8 ⟨a8, c8, rfl, hn8, O8⟩; have D8 := bstep Da hn8; have wayA : True := trivial)
            | (go_at_call 18; with_reducible refine HCb.out.mono ?_; rintro e1 w8 ⟨a8, c8, rfl, hn8, O8⟩; have D8 := bstep Db hn8; have N8 := (Blk.new wr #[.int .i64 0, .slice none 0 0] 34).drew.below hn8; have n80 := N8.cell 0 rfl; have n81 := N8.cell 1 rfl; have n82 := N8.free 0; have n83 := N8.free 1)
            | fail)
        all_goals
          go_wp2_with fail
          go_roundw
          case rel =>
            first
            | exact ⟨k + 1, by omega, by go_num, bstep HBr (bpush D8 _), RX.below (bpush D8 _), RO.below (bpush D8 _), sl_step RSX (bpush D8 _), sl_step RSO (bpush D8 _)⟩
            | exact ⟨k + 1, by omega, by go_num, bstep HBr (Below.setCell (Below.setCell D8 (Nat.le_refl _) _) (Nat.le_refl _) _), RX.below (Below.setCell (Below.setCell D8 (Nat.le_refl _) _) (Nat.le_refl _) _), RO.below (Below.setCell (Below.setCell D8 (Nat.le_refl _) _) (Nat.le_refl _) _), sl_step RSX (Below.setCell (Below.setCell D8 (Nat.le_refl _) _) (Nat.le_refl _) _), sl_step RSO (Below.setCell (Below.setCell D8 (Nat.le_refl _) _) (Nat.le_refl _) _)⟩
          case measure => simp [intOf]; omega
      · have hki : ¬ (k : Int) < (l.length : Int) := by omega
        obtain ⟨f1, f2⟩ := forget_end HV1.out
        have HC := Lib.hid (rvalid_impl d aO (tickL d l).length cO (tickL d l) wr rfl RSO)
        rw [f1] at HC
        go_wp2_with fail
        refine HC.out.mono ?_
        rintro e1 w8 ⟨rfl, hn8⟩
        have X8 := RX.below hn8
        have O8 := RO.below hn8
        have z0 := X8.cell 0 rfl
        have z1 := X8.cell 1 rfl
        have z2 := O8.cell 0 rfl
        have z3 := O8.cell 1 rfl
        clear x0 x1 o0 o1
        go_wp2_with fail
        go_ret
        exact ⟨rfl, bstep HBr hn8⟩

theorem own : ownKnob Try.prog.godebug = none := by kernel_rfl
theorem laidOut : laidOutB Try.prog = true := by kernel_rfl

set_option maxRecDepth 100000 in
theorem lifted (os : Os) (started : os.Started) (H : Type) (enc : TypeId × Value → H) :
    ReturnsInHanded {} Try.checked os 10 .any (Rows.fnRegisterForgetSpec.pre6 enc Try.prog Try.f10 Rows.fnRegisterForgetRow.domain false) (Rows.fnRegisterForgetSpec.post enc Try.prog Try.f10 false true false false) := by
  refine returnsInHanded_of_change (C := Try.checked) own started (by kernel_rfl) Try.func10
    (ChangeSpec.witness6 (enc := enc) (C := Try.checked) false ⟨#[], #[.slice none 0 0], []⟩ 8 (by kernel_rfl) (by kernel_rfl) (by kernel_rfl) (by kernel_rfl)) ?_
  intro W base args ds gs before hval0 hW hcnd _
  have hval : ∀ (j : Nat) t v, Try.f10.params[j]? = some t → args[j]? = some v → Value.okWide Try.prog W .any base t v := hval0
  have hW' := hW
  obtain ⟨p, q, hA0, hV, rfl, hfz, hnd⟩ := hW
  have hA : DataW.TrodAll enc Try.prog W 0 (fun _ => true) true Try.f10.params.toList args.toList ds p := hA0
  rw [Try.params10] at hA hval
  obtain ⟨v0, vs0, d0, ds0, p0, q0, hargs, rfl, rfl, h0, r0⟩ := trodAll_cons hA
  obtain ⟨rfl, rfl, rfl⟩ := trodAll_nil r0
  obtain rfl : args = #[v0] := by cases args; simp_all
  obtain ⟨rfl, rfl⟩ := trodVars_none hV
  have k0 := h0
  have lt0 : ∀ x ∈ p0, x.block < W.heap.size := by obtain ⟨m, hm⟩ := k0; exact DataW.trod_lt m _ _ _ hm
  obtain ⟨a0, len0, cap0, rfl⟩ := okWide_slice Try.underlying22 (hval 0 22 v0 rfl rfl)
  obtain ⟨z0, w0⟩ : ∃ zs, IsRow .u8 W a0 len0 cap0 zs := by
    obtain ⟨fuel, hf⟩ := h0
    rcases open_ints Try.underlying22 Try.underlying5 (by kernel_rfl) hf with ⟨hcs, _⟩ | ⟨x, l, c, zs, hcs, _, hl, hm, hz, _, hcell, hwz⟩
    · simp [Value.cells] at hcs
      obtain ⟨rfl, rfl, rfl⟩ := hcs
      exact ⟨[], .inl ⟨rfl, rfl, rfl, rfl⟩⟩
    · simp [Value.cells] at hcs
      obtain ⟨rfl, rfl, rfl⟩ := hcs
      exact ⟨zs, .inr ⟨_, rfl, hl, hm, by simpa using hz, hcell, hwz⟩⟩
  clear hA0 hval0
  refine (walk a0 len0 cap0 z0 W w0).mono fun e W' ⟨he, bel⟩ => ?_
  subst he
  exact ⟨_, rfl, _, _, _, [], _, [], hW', trodAll_mk1 (shut_bool Try.underlying4 _), (trodAll_cons_mk (Below.trod laidOut (by kernel_rfl) (of_decide_eq_true (by kernel_rfl)) k0 bel lt0) trodAll_mk0), rfl, bel.frame _, fun h => by cases h⟩

theorem over : Rows.fnRegisterForgetRow.holds Try.pinned (OpenSpec.ofChange Rows.fnRegisterForgetSpec) :=
  OpenClaim.holds_of_wide 10 Try.f10 rfl rfl rfl rfl rfl rfl rfl ⟨rfl, rfl, rfl, rfl, rfl⟩ rfl rfl rfl rfl rfl (by kernel_rfl) Try.func10 (by kernel_rfl)
    (of_decide_eq_true (by kernel_rfl)) (by unfold Func.isWrapper; first | (rw [if_pos (by decide +kernel)]; kernel_rfl) | (rw [if_neg (by decide +kernel)]; exact ⟨rfl, rfl⟩))
    (fun os started H enc _ => lifted os started H enc)

/-- The given statement. -/
theorem proved : Rows.FnRegisterForgetSaid := over
end Go.Proofs.Ytpphabiloplnoaa.fnRegisterForget
