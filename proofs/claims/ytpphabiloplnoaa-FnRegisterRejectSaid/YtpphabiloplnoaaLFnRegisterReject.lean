/- A rejected ticket changes nothing.
   No condition: it holds for every input. -/
import Derived.Test.YtpphabiloplnoaaRows
import Derived.WalkKit
import Derived.ProofKit
import Derived.OpenShut
import Derived.ShutString
import Derived.ChangeOld
import Derived.Below
import Derived.Lib.SmallJoins
import Derived.Test.YtpphabiloplnoaaHe
import Derived.Test.YtpphabiloplnoaaHf
import Derived.Test.YtpphabiloplnoaaGt
namespace Go.Proofs.Ytpphabiloplnoaa.fnRegisterReject
open Go.ChangeShapes Go.WideShapes Go.ChangeAt Go.RowKit Go.Joins
open Go.ChangeMaps (open_string shut_string)
set_option linter.unusedVariables false

set_option maxHeartbeats 4000000 in
theorem walk (a0 : Option Addr) (len0 cap0 : Nat) (z0 : List Int) (w : World) (w0 : IsRow .u8 w a0 len0 cap0 z0) :
    Calls Try.prog 9 #[.slice a0 len0 cap0] w fun e w' => e = .returned (.bool true) ∧ Below w.heap.size w w' := by
  by_cases hb : (1048576 : Int) < (len0 : Int)
  · go_enter Try.func9, Try.ntmps9
    go_wp2
    go_ret
    exact ⟨rfl, Below.refl _ _⟩
  have HD := Lib.hid (draw_rtry w a0 len0 cap0 z0 w0)
  clear w0
  go_enter Try.func9, Try.ntmps9
  go_wp2_with fail
  refine HD.out.mono ?_
  rintro e1 w1 ⟨now, t, l, sa, c, rfl, hl9, hlc, ⟨hn1, hn2⟩, hb1, SX1⟩
  clear HD
  have HI := Lib.hid (fun (w' : World) (S : Sl 2 w' w'.heap.size sa l.length (tkG l)) => rtry_impl now t sa l.length c l w' rfl S)
  have HP := Lib.hid (fun (w' : World) (S : Sl 2 w' w'.heap.size sa l.length (tkG l)) => rtry_spec now t sa l.length c l w' rfl hlc S)
  obtain ⟨N, hN⟩ : ∃ x, x = tryN now l t := ⟨_, rfl⟩
  obtain ⟨L, hL⟩ : ∃ x, x = tryS now l t := ⟨_, rfl⟩
  obtain ⟨V, hV⟩ : ∃ x, x = tryV now l t := ⟨_, rfl⟩
  rw [← hN, ← hL, ← hV] at HI HP
  have HN := Lib.hid hN
  have HL := Lib.hid hL
  have HV := Lib.hid hV
  clear hN hL hV
  have SX2 := sl_push (sl_push (SX1) (Obj.cells #[.int .i64 now, .slice sa l.length c] 34)) (Obj.cells #[.int .i64 t.1, .int .i64 t.2] 25)
  have hb2 := bpush (bpush (hb1) (Obj.cells #[.int .i64 now, .slice sa l.length c] 34)) (Obj.cells #[.int .i64 t.1, .int .i64 t.2] 25)
  have BX2 := (Blk.new w1 #[.int .i64 now, .slice sa l.length c] 34).alloc (Obj.cells #[.int .i64 t.1, .int .i64 t.2] 25)
  have BT2 := Blk.new (w1.alloc (Obj.cells #[.int .i64 now, .slice sa l.length c] 34)) #[.int .i64 t.1, .int .i64 t.2] 25
  simp only [World.size_alloc] at BT2
  clear SX1 hb1
  go_wp2_with fail
  obtain ⟨w2, hw2⟩ : ∃ x, x = (w1.alloc (Obj.cells #[.int .i64 now, .slice sa l.length c] 34)).alloc (Obj.cells #[.int .i64 t.1, .int .i64 t.2] 25) := ⟨_, rfl⟩
  rw [← hw2] at BX2 BT2 SX2 hb2 ⊢
  clear hw2
  refine (HI.out w2 SX2).mono ?_
  rintro e1 w3 ⟨aO, cO, rfl, hn3, OO⟩
  have BX3 := BX2.below hn3
  have BT3 := BT2.below hn3
  have SX3 := sl_step SX2 hn3
  have hb3 := bstep hb2 hn3
  have SO3 := OO.sl
  clear BX2 BT2 SX2 hb2 hn3 OO
  have cX0 := BX3.cell 0 rfl
  have cX1 := BX3.cell 1 rfl
  have qX := BX3.lt
  have cT0 := BT3.cell 0 rfl
  have cT1 := BT3.cell 1 rfl
  have qT := BT3.lt
  have BX4 := BX3.alloc (Obj.cells #[.int .i64 N, .slice aO L.length cO] 34)
  have BT4 := BT3.alloc (Obj.cells #[.int .i64 N, .slice aO L.length cO] 34)
  have SX4 := sl_push (SX3) (Obj.cells #[.int .i64 N, .slice aO L.length cO] 34)
  have SO4 := sl_push (SO3) (Obj.cells #[.int .i64 N, .slice aO L.length cO] 34)
  have hb4 := bpush (hb3) (Obj.cells #[.int .i64 N, .slice aO L.length cO] 34)
  have BO4 := Blk.new w3 #[.int .i64 N, .slice aO L.length cO] 34
  go_wp2_with fail
  obtain ⟨w4, hw4⟩ : ∃ x, x = w3.alloc (Obj.cells #[.int .i64 N, .slice aO L.length cO] 34) := ⟨_, rfl⟩
  rw [← hw4] at BX4 BT4 BO4 SX4 SO4 hb4 ⊢
  clear hw4
  clear cX0 cX1 qX cT0 cT1 qT
  clear BX3 BT3 SX3 SO3 hb3
  refine (HP.out w4 SX4).mono ?_
  rintro e1 w5 ⟨aQ, cQ, rfl, hn5, OQ⟩
  have BX5 := BX4.below hn5
  have BT5 := BT4.below hn5
  have BO5 := BO4.below hn5
  have SX5 := sl_step SX4 hn5
  have SO5 := sl_step SO4 hn5
  have hb5 := bstep hb4 hn5
  have SQ5 := OQ.sl
  clear BX4 BT4 BO4 SX4 SO4 hb4 hn5 OQ
  have cX0 := BX5.cell 0 rfl
  have cX1 := BX5.cell 1 rfl
  have qX := BX5.lt
  have cT0 := BT5.cell 0 rfl
  have cT1 := BT5.cell 1 rfl
  have qT := BT5.lt
  have cO0 := BO5.cell 0 rfl
  have cO1 := BO5.cell 1 rfl
  have qO := BO5.lt
  have BX6 := BX5.alloc (Obj.cells #[.int .i64 N, .slice aQ L.length cQ] 34)
  have BT6 := BT5.alloc (Obj.cells #[.int .i64 N, .slice aQ L.length cQ] 34)
  have BO6 := BO5.alloc (Obj.cells #[.int .i64 N, .slice aQ L.length cQ] 34)
  have SX6 := sl_push (SX5) (Obj.cells #[.int .i64 N, .slice aQ L.length cQ] 34)
  have SO6 := sl_push (SO5) (Obj.cells #[.int .i64 N, .slice aQ L.length cQ] 34)
  have SQ6 := sl_push (SQ5) (Obj.cells #[.int .i64 N, .slice aQ L.length cQ] 34)
  have hb6 := bpush (hb5) (Obj.cells #[.int .i64 N, .slice aQ L.length cQ] 34)
  have BQ6 := Blk.new w5 #[.int .i64 N, .slice aQ L.length cQ] 34
  cases V
  · skip
    go_wp2_with fail
    obtain ⟨w6, hw6⟩ : ∃ x, x = w5.alloc (Obj.cells #[.int .i64 N, .slice aQ L.length cQ] 34) := ⟨_, rfl⟩
    rw [← hw6] at BX6 BT6 BO6 BQ6 SX6 SO6 SQ6 hb6 ⊢
    clear hw6
    clear cX0 cX1 qX cT0 cT1 qT cO0 cO1 qO
    clear BX5 BT5 BO5 SX5 SO5 SQ5 hb5
    refine (sameReg_c _ _ _ _ _ _ _ w6 SO6 SQ6).mono ?_
    rintro e1 w7 ⟨rfl, hn7⟩
    have BX7 := BX6.below hn7
    have BT7 := BT6.below hn7
    have BO7 := BO6.below hn7
    have BQ7 := BQ6.below hn7
    have SX7 := sl_step SX6 hn7
    have SO7 := sl_step SO6 hn7
    have SQ7 := sl_step SQ6 hn7
    have hb7 := bstep hb6 hn7
    clear BX6 BT6 BO6 BQ6 SX6 SO6 SQ6 hb6 hn7
    have cX0 := BX7.cell 0 rfl
    have cX1 := BX7.cell 1 rfl
    have qX := BX7.lt
    go_wp2_with fail
    clear cX0 cX1 qX
    refine (rvalid_spec now sa l.length c l w7 rfl SX7).mono ?_
    rintro e1 w8 ⟨rfl, hn8⟩
    have BX8 := BX7.below hn8
    have BT8 := BT7.below hn8
    have BO8 := BO7.below hn8
    have BQ8 := BQ7.below hn8
    have SX8 := sl_step SX7 hn8
    have SO8 := sl_step SO7 hn8
    have SQ8 := sl_step SQ7 hn8
    have hb8 := bstep hb7 hn8
    clear BX7 BT7 BO7 BQ7 SX7 SO7 SQ7 hb7 hn8
    have cX0 := BX8.cell 0 rfl
    have cX1 := BX8.cell 1 rfl
    have qX := BX8.lt
    have cT0 := BT8.cell 0 rfl
    have cT1 := BT8.cell 1 rfl
    have qT := BT8.lt
    have cO0 := BO8.cell 0 rfl
    have cO1 := BO8.cell 1 rfl
    have qO := BO8.lt
    cases hrg : regOk now l
    · skip
      go_wp2_with fail
      go_ret
      exact ⟨rfl, hb8⟩
    · skip
      by_cases k55 : t.1 < 0
      · skip
        go_wp2_with fail
        go_ret
        exact ⟨rfl, hb8⟩
      by_cases k55 : t.2 < 0
      · skip
        go_wp2_with fail
        go_ret
        exact ⟨rfl, hb8⟩
      by_cases k57 : 99 < t.1
      · skip
        go_wp2_with fail
        go_ret
        exact ⟨rfl, hb8⟩
      by_cases k59 : 999 < t.2
      · skip
        go_wp2_with fail
        go_ret
        exact ⟨rfl, hb8⟩
      obtain ⟨E1, E2⟩ := reject_t HV.out.symm hrg (by omega) (by omega) (by omega) (by omega)
      have E1 := (HN.out.trans E1).symm
      have E2 := (HL.out.trans E2).symm
      subst E1
      subst E2
      go_wp2_with fail
      refine (sameReg_c now _ _ _ _ _ l w8 SO8 SX8).mono ?_
      rintro e1 w9 ⟨rfl, hn9⟩
      have BX9 := BX8.below hn9
      have BT9 := BT8.below hn9
      have BO9 := BO8.below hn9
      have BQ9 := BQ8.below hn9
      have SX9 := sl_step SX8 hn9
      have SO9 := sl_step SO8 hn9
      have SQ9 := sl_step SQ8 hn9
      have hb9 := bstep hb8 hn9
      clear BX8 BT8 BO8 BQ8 SX8 SO8 SQ8 hb8 hn9
      go_wp2_with fail
      go_ret
      exact ⟨rfl, hb9⟩
  · skip
    go_wp2_with fail
    obtain ⟨w6, hw6⟩ : ∃ x, x = w5.alloc (Obj.cells #[.int .i64 N, .slice aQ L.length cQ] 34) := ⟨_, rfl⟩
    rw [← hw6] at BX6 BT6 BO6 BQ6 SX6 SO6 SQ6 hb6 ⊢
    clear hw6
    clear cX0 cX1 qX cT0 cT1 qT cO0 cO1 qO
    clear BX5 BT5 BO5 SX5 SO5 SQ5 hb5
    refine (sameReg_c _ _ _ _ _ _ _ w6 SO6 SQ6).mono ?_
    rintro e1 w7 ⟨rfl, hn7⟩
    have BX7 := BX6.below hn7
    have BT7 := BT6.below hn7
    have BO7 := BO6.below hn7
    have BQ7 := BQ6.below hn7
    have SX7 := sl_step SX6 hn7
    have SO7 := sl_step SO6 hn7
    have SQ7 := sl_step SQ6 hn7
    have hb7 := bstep hb6 hn7
    clear BX6 BT6 BO6 BQ6 SX6 SO6 SQ6 hb6 hn7
    have cO0 := BO7.cell 0 rfl
    have cO1 := BO7.cell 1 rfl
    have qO := BO7.lt
    have cQ0 := BQ7.cell 0 rfl
    have cQ1 := BQ7.cell 1 rfl
    have qQ := BQ7.lt
    go_wp2_with fail
    clear cO0 cO1 qO cQ0 cQ1 qQ
    refine (sameReg_c _ _ _ _ _ _ _ w7 SO7 SQ7).mono ?_
    rintro e1 w8 ⟨rfl, hn8⟩
    have BX8 := BX7.below hn8
    have BT8 := BT7.below hn8
    have BO8 := BO7.below hn8
    have BQ8 := BQ7.below hn8
    have SX8 := sl_step SX7 hn8
    have SO8 := sl_step SO7 hn8
    have SQ8 := sl_step SQ7 hn8
    have hb8 := bstep hb7 hn8
    clear BX7 BT7 BO7 BQ7 SX7 SO7 SQ7 hb7 hn8
    go_wp2_with fail
    go_ret
    exact ⟨rfl, hb8⟩

theorem own : ownKnob Try.prog.godebug = none := by kernel_rfl
theorem laidOut : laidOutB Try.prog = true := by kernel_rfl

set_option maxRecDepth 100000 in
theorem lifted (os : Os) (started : os.Started) (H : Type) (enc : TypeId × Value → H) :
    ReturnsInHanded {} Try.checked os 9 .any (Rows.fnRegisterRejectSpec.pre6 enc Try.prog Try.f9 Rows.fnRegisterRejectRow.domain false) (Rows.fnRegisterRejectSpec.post enc Try.prog Try.f9 false true false false) := by
  refine returnsInHanded_of_change (C := Try.checked) own started (by kernel_rfl) Try.func9
    (ChangeSpec.witness6 (enc := enc) (C := Try.checked) false ⟨#[], #[.slice none 0 0], []⟩ 8 (by kernel_rfl) (by kernel_rfl) (by kernel_rfl) (by kernel_rfl)) ?_
  intro W base args ds gs before hval0 hW hcnd _
  have hval : ∀ (j : Nat) t v, Try.f9.params[j]? = some t → args[j]? = some v → Value.okWide Try.prog W .any base t v := hval0
  have hW' := hW
  obtain ⟨p, q, hA0, hV, rfl, hfz, hnd⟩ := hW
  have hA : DataW.TrodAll enc Try.prog W 0 (fun _ => true) true Try.f9.params.toList args.toList ds p := hA0
  rw [Try.params9] at hA hval
  obtain ⟨v0, vs0, d0, ds0, p0, q0, hargs, rfl, rfl, h0, r0⟩ := trodAll_cons hA
  obtain ⟨rfl, rfl, rfl⟩ := trodAll_nil r0
  obtain rfl : args = #[v0] := by cases args; simp_all
  obtain ⟨rfl, rfl⟩ := trodVars_none hV
  have k0 := h0
  have lt0 : ∀ x ∈ p0, x.block < W.heap.size := by obtain ⟨m, hm⟩ := k0; exact DataW.trod_lt m _ _ _ hm
  obtain ⟨a0, len0, cap0, rfl⟩ := okWide_slice Try.underlying22 (hval 0 22 v0 rfl rfl)
  obtain ⟨z0, w0⟩ : ∃ zs, IsRow .u8 W a0 len0 cap0 zs := by
    obtain ⟨fuel, hf⟩ := h0
    rcases open_ints Try.underlying22 Try.underlying5 (by kernel_rfl) hf with ⟨hcs, _⟩ | ⟨x, l, c, zs, hcs, _, hl, hm, hz, _, hcell, hwz⟩
    · simp [Value.cells] at hcs
      obtain ⟨rfl, rfl, rfl⟩ := hcs
      exact ⟨[], .inl ⟨rfl, rfl, rfl, rfl⟩⟩
    · simp [Value.cells] at hcs
      obtain ⟨rfl, rfl, rfl⟩ := hcs
      exact ⟨zs, .inr ⟨_, rfl, hl, hm, by simpa using hz, hcell, hwz⟩⟩
  clear hA0 hval0
  refine (walk a0 len0 cap0 z0 W w0).mono fun e W' ⟨he, bel⟩ => ?_
  subst he
  exact ⟨_, rfl, _, _, _, [], _, [], hW', trodAll_mk1 (shut_bool Try.underlying4 _), (trodAll_cons_mk (Below.trod laidOut (by kernel_rfl) (of_decide_eq_true (by kernel_rfl)) k0 bel lt0) trodAll_mk0), rfl, bel.frame _, fun h => by cases h⟩

theorem over : Rows.fnRegisterRejectRow.holds Try.pinned (OpenSpec.ofChange Rows.fnRegisterRejectSpec) :=
  OpenClaim.holds_of_wide 9 Try.f9 rfl rfl rfl rfl rfl rfl rfl ⟨rfl, rfl, rfl, rfl, rfl⟩ rfl rfl rfl rfl rfl (by kernel_rfl) Try.func9 (by kernel_rfl)
    (of_decide_eq_true (by kernel_rfl)) (by unfold Func.isWrapper; first | (rw [if_pos (by decide +kernel)]; kernel_rfl) | (rw [if_neg (by decide +kernel)]; exact ⟨rfl, rfl⟩))
    (fun os started H enc _ => lifted os started H enc)

/-- The given statement. -/
theorem proved : Rows.FnRegisterRejectSaid := over
end Go.Proofs.Ytpphabiloplnoaa.fnRegisterReject
