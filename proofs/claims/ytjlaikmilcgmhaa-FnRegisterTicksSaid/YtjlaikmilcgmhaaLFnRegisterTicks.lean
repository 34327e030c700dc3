/- Time can advance in steps.
   No condition: it holds for every input. -/
import Derived.Test.YtjlaikmilcgmhaaRows
import Derived.WalkKit
import Derived.ProofKit
import Derived.OpenShut
import Derived.ShutString
import Derived.ChangeOld
import Derived.Below
import Derived.Lib.SmallJoins
import Derived.Test.YtjlaikmilcgmhaaHd
import Derived.Test.YtjlaikmilcgmhaaHf
import Derived.Test.YtjlaikmilcgmhaaGj
namespace Go.Proofs.Ytjlaikmilcgmhaa.fnRegisterTicks
open Go.ChangeShapes Go.WideShapes Go.ChangeAt Go.RowKit Go.Joins
open Go.ChangeMaps (open_string shut_string)
set_option linter.unusedVariables false

set_option maxHeartbeats 4000000 in
theorem walk (a0 : Option Addr) (len0 cap0 : Nat) (z0 : List Int) (a1 : Option Addr) (len1 cap1 : Nat) (z1 : List Int) (w : World) (w0 : IsRow .u8 w a0 len0 cap0 z0) (w1 : IsRow .u8 w a1 len1 cap1 z1) :
    Calls Try.prog 5 #[.slice a0 len0 cap0, .slice a1 len1 cap1] w fun e w' => e = .returned (.bool true) ∧ Below w.heap.size w w' := by
  have hm1 : (len1 : Int) ≤ 9223372036854775807 := by
    have w1' := w1
    unfold IsRow maxLen at w1'
    rcases w1' with ⟨_, h, _, _⟩ | ⟨_, _, h1, h2, _⟩ <;> omega
  have W1 := Lib.hid w1
  clear w1
  by_cases hb : (1048576 : Int) < (len0 : Int)
  · go_enter Try.func5, Try.ntmps5
    go_wp2
    go_ret
    exact ⟨rfl, Below.refl _ _⟩
  by_cases hb' : (1048576 : Int) < (len1 : Int)
  · go_enter Try.func5, Try.ntmps5
    go_wp2
    go_ret
    exact ⟨rfl, Below.refl _ _⟩
  have HD := Lib.hid (draw_rtick w a0 len0 cap0 z0 w0)
  clear w0
  go_enter Try.func5, Try.ntmps5
  go_wp2_with fail
  refine HD.out.mono ?_
  rintro e1 w1 ⟨now, d, l, sa, c, rfl, hl9, hlc, ⟨hn1, hn2⟩, ⟨hd1, hd2⟩, hb1, SX1⟩
  clear HD
  have HI := Lib.hid (fun (w' : World) (S : Sl 2 w' w'.heap.size sa l.length (tkG l)) => rtick_impl now d sa l.length c l w' rfl S)
  have HP := Lib.hid (fun (w' : World) (S : Sl 2 w' w'.heap.size sa l.length (tkG l)) => rtick_spec now d sa l.length c l w' rfl S)
  obtain ⟨N, hN⟩ : ∃ x, x = tickN now l d := ⟨_, rfl⟩
  obtain ⟨L, hL⟩ : ∃ x, x = tickS now l d := ⟨_, rfl⟩
  obtain ⟨V, hV⟩ : ∃ x, x = tickOk now l d := ⟨_, rfl⟩
  rw [← hN, ← hL, ← hV] at HI HP
  have HN := Lib.hid hN
  have HL := Lib.hid hL
  have HV := Lib.hid hV
  clear hN hL hV
  have SX2 := sl_push (SX1) (Obj.cells #[.int .i64 now, .slice sa l.length c] 42)
  have hb2 := bpush (hb1) (Obj.cells #[.int .i64 now, .slice sa l.length c] 42)
  have BX2 := Blk.new w1 #[.int .i64 now, .slice sa l.length c] 42
  clear SX1 hb1
  go_wp2_with fail
  obtain ⟨w2, hw2⟩ : ∃ x, x = w1.alloc (Obj.cells #[.int .i64 now, .slice sa l.length c] 42) := ⟨_, rfl⟩
  rw [← hw2] at BX2 SX2 hb2 ⊢
  clear hw2
  refine (HI.out w2 SX2).mono ?_
  rintro e1 w3 ⟨aO, cO, rfl, hn3, OO⟩
  have BX3 := BX2.below hn3
  have SX3 := sl_step SX2 hn3
  have hb3 := bstep hb2 hn3
  have SO3 := OO.sl
  clear BX2 SX2 hb2 hn3 OO
  have cX0 := BX3.cell 0 rfl
  have cX1 := BX3.cell 1 rfl
  have qX := BX3.lt
  have BX4 := BX3.alloc (Obj.cells #[.int .i64 N, .slice aO L.length cO] 42)
  have SX4 := sl_push (SX3) (Obj.cells #[.int .i64 N, .slice aO L.length cO] 42)
  have SO4 := sl_push (SO3) (Obj.cells #[.int .i64 N, .slice aO L.length cO] 42)
  have hb4 := bpush (hb3) (Obj.cells #[.int .i64 N, .slice aO L.length cO] 42)
  have BO4 := Blk.new w3 #[.int .i64 N, .slice aO L.length cO] 42
  go_wp2_with fail
  obtain ⟨w4, hw4⟩ : ∃ x, x = w3.alloc (Obj.cells #[.int .i64 N, .slice aO L.length cO] 42) := ⟨_, rfl⟩
  rw [← hw4] at BX4 BO4 SX4 SO4 hb4 ⊢
  clear hw4
  clear cX0 cX1 qX
  clear BX3 SX3 SO3 hb3
  refine (HP.out w4 SX4).mono ?_
  rintro e1 w5 ⟨aQ, cQ, rfl, hn5, OQ⟩
  have BX5 := BX4.below hn5
  have BO5 := BO4.below hn5
  have SX5 := sl_step SX4 hn5
  have SO5 := sl_step SO4 hn5
  have hb5 := bstep hb4 hn5
  have SQ5 := OQ.sl
  clear BX4 BO4 SX4 SO4 hb4 hn5 OQ
  have cX0 := BX5.cell 0 rfl
  have cX1 := BX5.cell 1 rfl
  have qX := BX5.lt
  have cO0 := BO5.cell 0 rfl
  have cO1 := BO5.cell 1 rfl
  have qO := BO5.lt
  have BX6 := BX5.alloc (Obj.cells #[.int .i64 N, .slice aQ L.length cQ] 42)
  have BO6 := BO5.alloc (Obj.cells #[.int .i64 N, .slice aQ L.length cQ] 42)
  have SX6 := sl_push (SX5) (Obj.cells #[.int .i64 N, .slice aQ L.length cQ] 42)
  have SO6 := sl_push (SO5) (Obj.cells #[.int .i64 N, .slice aQ L.length cQ] 42)
  have SQ6 := sl_push (SQ5) (Obj.cells #[.int .i64 N, .slice aQ L.length cQ] 42)
  have hb6 := bpush (hb5) (Obj.cells #[.int .i64 N, .slice aQ L.length cQ] 42)
  have BQ6 := Blk.new w5 #[.int .i64 N, .slice aQ L.length cQ] 42
  cases V
  · skip
    go_wp2_with fail
    obtain ⟨w6, hw6⟩ : ∃ x, x = w5.alloc (Obj.cells #[.int .i64 N, .slice aQ L.length cQ] 42) := ⟨_, rfl⟩
    rw [← hw6] at BX6 BO6 BQ6 SX6 SO6 SQ6 hb6 ⊢
    clear hw6
    clear cX0 cX1 qX cO0 cO1 qO
    clear BX5 BO5 SX5 SO5 SQ5 hb5
    refine (sameReg_c _ _ _ _ _ _ _ w6 SO6 SQ6).mono ?_
    rintro e1 w7 ⟨rfl, hn7⟩
    have BX7 := BX6.below hn7
    have BO7 := BO6.below hn7
    have BQ7 := BQ6.below hn7
    have SX7 := sl_step SX6 hn7
    have SO7 := sl_step SO6 hn7
    have SQ7 := sl_step SQ6 hn7
    have hb7 := bstep hb6 hn7
    clear BX6 BO6 BQ6 SX6 SO6 SQ6 hb6 hn7
    have cO0 := BO7.cell 0 rfl
    have cO1 := BO7.cell 1 rfl
    have qO := BO7.lt
    have cQ0 := BQ7.cell 0 rfl
    have cQ1 := BQ7.cell 1 rfl
    have qQ := BQ7.lt
    go_wp2_with fail
    clear cO0 cO1 qO cQ0 cQ1 qQ
    refine (sameReg_c _ _ _ _ _ _ _ w7 SO7 SQ7).mono ?_
    rintro e1 w8 ⟨rfl, hn8⟩
    have BX8 := BX7.below hn8
    have BO8 := BO7.below hn8
    have BQ8 := BQ7.below hn8
    have SX8 := sl_step SX7 hn8
    have SO8 := sl_step SO7 hn8
    have SQ8 := sl_step SQ7 hn8
    have hb8 := bstep hb7 hn8
    clear BX7 BO7 BQ7 SX7 SO7 SQ7 hb7 hn8
    go_wp2_with fail
    go_ret
    exact ⟨rfl, hb8⟩
  · have hv := HV.out.symm
    obtain ⟨E1, E2⟩ := tick_yes hv
    have E1 := (HN.out.trans E1).symm
    have E2 := (HL.out.trans E2).symm
    subst E1
    subst E2
    have HV1 := Lib.hid hv
    clear hv HN HL HV
    go_wp2_with fail
    obtain ⟨w6, hw6⟩ : ∃ x, x = w5.alloc (Obj.cells #[.int .i64 d, .slice aQ (tickL d l).length cQ] 42) := ⟨_, rfl⟩
    rw [← hw6] at BX6 BO6 BQ6 SX6 SO6 SQ6 hb6 ⊢
    clear hw6
    clear cX0 cX1 qX cO0 cO1 qO
    clear BX5 BO5 SX5 SO5 SQ5 hb5
    refine (sameReg_c _ _ _ _ _ _ _ w6 SO6 SQ6).mono ?_
    rintro e1 w7 ⟨rfl, hn7⟩
    have BX7 := BX6.below hn7
    have BO7 := BO6.below hn7
    have BQ7 := BQ6.below hn7
    have SX7 := sl_step SX6 hn7
    have SO7 := sl_step SO6 hn7
    have SQ7 := sl_step SQ6 hn7
    have hb7 := bstep hb6 hn7
    clear BX6 BO6 BQ6 SX6 SO6 SQ6 hb6 hn7
    obtain ⟨m, hm, hm8⟩ : ∃ m : Int, Int.tmod (len1 : Int) 8 = m ∧ (0 ≤ m ∧ m < 8) := ⟨_, rfl, by rw [Int.tmod_eq_emod_of_nonneg (by omega)]; omega⟩
    obtain ⟨_, hd8, hd9⟩ := tick_t HV1.out
    have hdn : 0 ≤ now := (regOk_iff.1 (tick_t HV1.out).1).1.1
    obtain ⟨E, hE⟩ : ∃ E : Int, E = min (d + m) 999 := ⟨_, rfl⟩
    have hEb : d ≤ E ∧ E ≤ 999 := by omega
    obtain ⟨J1, J2, J3⟩ := tick_two HV1.out hEb.1 hEb.2
    obtain ⟨J4, J5⟩ := tick_yes J1
    obtain ⟨J6, J7⟩ := tick_yes J2
    rw [J3] at J5
    subst hE
    have HJ := Lib.hid (And.intro J1 (And.intro J4 (And.intro J5 (And.intro J2 (And.intro J6 J7)))))
    clear J1 J2 J3 J4 J5 J6 J7
    have cO0 := BO7.cell 0 rfl
    have cO1 := BO7.cell 1 rfl
    have qO := BO7.lt
    go_wp2_with fail
    clear cO0 cO1 qO
    obtain ⟨J1, J4, J5, _⟩ := HJ.out
    have HC := Lib.hid (rtick_impl d (min (d + m) 999) aO (tickL d l).length cO (tickL d l) w7 rfl SO7)
    rw [J1, J4, J5] at HC
    clear J1 J4 J5
    refine (HC.out).mono ?_
    rintro e1 w8 ⟨aY, cY, rfl, hn8, OY⟩
    have BX8 := BX7.below hn8
    have BO8 := BO7.below hn8
    have BQ8 := BQ7.below hn8
    have SX8 := sl_step SX7 hn8
    have SO8 := sl_step SO7 hn8
    have SQ8 := sl_step SQ7 hn8
    have hb8 := bstep hb7 hn8
    have SY8 := OY.sl
    clear BX7 BO7 BQ7 SX7 SO7 SQ7 hb7 hn8 OY HC
    have cX0 := BX8.cell 0 rfl
    have cX1 := BX8.cell 1 rfl
    have qX := BX8.lt
    have BX9 := BX8.alloc (Obj.cells #[.int .i64 (min (d + m) 999), .slice aY (tickL (min (d + m) 999) l).length cY] 42)
    have BO9 := BO8.alloc (Obj.cells #[.int .i64 (min (d + m) 999), .slice aY (tickL (min (d + m) 999) l).length cY] 42)
    have BQ9 := BQ8.alloc (Obj.cells #[.int .i64 (min (d + m) 999), .slice aY (tickL (min (d + m) 999) l).length cY] 42)
    have SX9 := sl_push (SX8) (Obj.cells #[.int .i64 (min (d + m) 999), .slice aY (tickL (min (d + m) 999) l).length cY] 42)
    have SO9 := sl_push (SO8) (Obj.cells #[.int .i64 (min (d + m) 999), .slice aY (tickL (min (d + m) 999) l).length cY] 42)
    have SQ9 := sl_push (SQ8) (Obj.cells #[.int .i64 (min (d + m) 999), .slice aY (tickL (min (d + m) 999) l).length cY] 42)
    have SY9 := sl_push (SY8) (Obj.cells #[.int .i64 (min (d + m) 999), .slice aY (tickL (min (d + m) 999) l).length cY] 42)
    have hb9 := bpush (hb8) (Obj.cells #[.int .i64 (min (d + m) 999), .slice aY (tickL (min (d + m) 999) l).length cY] 42)
    have BY9 := Blk.new w8 #[.int .i64 (min (d + m) 999), .slice aY (tickL (min (d + m) 999) l).length cY] 42
    go_wp2_with fail
    obtain ⟨w9, hw9⟩ : ∃ x, x = w8.alloc (Obj.cells #[.int .i64 (min (d + m) 999), .slice aY (tickL (min (d + m) 999) l).length cY] 42) := ⟨_, rfl⟩
    rw [← hw9] at BX9 BO9 BQ9 BY9 SX9 SO9 SQ9 SY9 hb9 ⊢
    clear hw9
    clear cX0 cX1 qX
    clear BX8 BO8 BQ8 SX8 SO8 SQ8 SY8 hb8
    obtain ⟨_, _, _, J2, J6, J7⟩ := HJ.out
    have HC := Lib.hid (rtick_impl now (min (d + m) 999) sa l.length c l w9 rfl SX9)
    rw [J2, J6, J7] at HC
    clear J2 J6 J7
    refine (HC.out).mono ?_
    rintro e1 w10 ⟨aZ, cZ, rfl, hn10, OZ⟩
    have BX10 := BX9.below hn10
    have BO10 := BO9.below hn10
    have BQ10 := BQ9.below hn10
    have BY10 := BY9.below hn10
    have SX10 := sl_step SX9 hn10
    have SO10 := sl_step SO9 hn10
    have SQ10 := sl_step SQ9 hn10
    have SY10 := sl_step SY9 hn10
    have hb10 := bstep hb9 hn10
    have SZ10 := OZ.sl
    clear BX9 BO9 BQ9 BY9 SX9 SO9 SQ9 SY9 hb9 hn10 OZ HC
    have cY0 := BY10.cell 0 rfl
    have cY1 := BY10.cell 1 rfl
    have qY := BY10.lt
    have BX11 := BX10.alloc (Obj.cells #[.int .i64 (min (d + m) 999), .slice aZ (tickL (min (d + m) 999) l).length cZ] 42)
    have BO11 := BO10.alloc (Obj.cells #[.int .i64 (min (d + m) 999), .slice aZ (tickL (min (d + m) 999) l).length cZ] 42)
    have BQ11 := BQ10.alloc (Obj.cells #[.int .i64 (min (d + m) 999), .slice aZ (tickL (min (d + m) 999) l).length cZ] 42)
    have BY11 := BY10.alloc (Obj.cells #[.int .i64 (min (d + m) 999), .slice aZ (tickL (min (d + m) 999) l).length cZ] 42)
    have SX11 := sl_push (SX10) (Obj.cells #[.int .i64 (min (d + m) 999), .slice aZ (tickL (min (d + m) 999) l).length cZ] 42)
    have SO11 := sl_push (SO10) (Obj.cells #[.int .i64 (min (d + m) 999), .slice aZ (tickL (min (d + m) 999) l).length cZ] 42)
    have SQ11 := sl_push (SQ10) (Obj.cells #[.int .i64 (min (d + m) 999), .slice aZ (tickL (min (d + m) 999) l).length cZ] 42)
    have SY11 := sl_push (SY10) (Obj.cells #[.int .i64 (min (d + m) 999), .slice aZ (tickL (min (d + m) 999) l).length cZ] 42)
    have SZ11 := sl_push (SZ10) (Obj.cells #[.int .i64 (min (d + m) 999), .slice aZ (tickL (min (d + m) 999) l).length cZ] 42)
    have hb11 := bpush (hb10) (Obj.cells #[.int .i64 (min (d + m) 999), .slice aZ (tickL (min (d + m) 999) l).length cZ] 42)
    have BZ11 := Blk.new w10 #[.int .i64 (min (d + m) 999), .slice aZ (tickL (min (d + m) 999) l).length cZ] 42
    go_wp2_with fail
    obtain ⟨w11, hw11⟩ : ∃ x, x = w10.alloc (Obj.cells #[.int .i64 (min (d + m) 999), .slice aZ (tickL (min (d + m) 999) l).length cZ] 42) := ⟨_, rfl⟩
    rw [← hw11] at BX11 BO11 BQ11 BY11 BZ11 SX11 SO11 SQ11 SY11 SZ11 hb11 ⊢
    clear hw11
    clear cY0 cY1 qY
    clear BX10 BO10 BQ10 BY10 SX10 SO10 SQ10 SY10 SZ10 hb10
    refine (sameReg_c _ _ _ _ _ _ _ w11 SY11 SZ11).mono ?_
    rintro e1 w12 ⟨rfl, hn12⟩
    have BX12 := BX11.below hn12
    have BO12 := BO11.below hn12
    have BQ12 := BQ11.below hn12
    have BY12 := BY11.below hn12
    have BZ12 := BZ11.below hn12
    have SX12 := sl_step SX11 hn12
    have SO12 := sl_step SO11 hn12
    have SQ12 := sl_step SQ11 hn12
    have SY12 := sl_step SY11 hn12
    have SZ12 := sl_step SZ11 hn12
    have hb12 := bstep hb11 hn12
    clear BX11 BO11 BQ11 BY11 BZ11 SX11 SO11 SQ11 SY11 SZ11 hb11 hn12
    go_wp2_with fail
    go_ret
    exact ⟨rfl, hb12⟩

theorem own : ownKnob Try.prog.godebug = none := by kernel_rfl
theorem laidOut : laidOutB Try.prog = true := by kernel_rfl

set_option maxRecDepth 100000 in
theorem lifted (os : Os) (started : os.Started) (H : Type) (enc : TypeId × Value → H) :
    ReturnsInHanded {} Try.checked os 5 .any (Rows.fnRegisterTicksSpec.pre6 enc Try.prog Try.f5 Rows.fnRegisterTicksRow.domain false) (Rows.fnRegisterTicksSpec.post enc Try.prog Try.f5 false true false false) := by
  refine returnsInHanded_of_change (C := Try.checked) own started (by kernel_rfl) Try.func5
    (ChangeSpec.witness6 (enc := enc) (C := Try.checked) false ⟨#[], #[.slice none 0 0, .slice none 0 0], []⟩ 8 (by kernel_rfl) (by kernel_rfl) (by kernel_rfl) (by kernel_rfl)) ?_
  intro W base args ds gs before hval0 hW hcnd _
  have hval : ∀ (j : Nat) t v, Try.f5.params[j]? = some t → args[j]? = some v → Value.okWide Try.prog W .any base t v := hval0
  have hW' := hW
  obtain ⟨p, q, hA0, hV, rfl, hfz, hnd⟩ := hW
  have hA : DataW.TrodAll enc Try.prog W 0 (fun _ => true) true Try.f5.params.toList args.toList ds p := hA0
  rw [Try.params5] at hA hval
  obtain ⟨v0, vs0, d0, ds0, p0, q0, hargs, rfl, rfl, h0, r0⟩ := trodAll_cons hA
  obtain ⟨v1, vs1, d1, ds1, p1, q1, rfl, rfl, rfl, h1, r1⟩ := trodAll_cons r0
  obtain ⟨rfl, rfl, rfl⟩ := trodAll_nil r1
  obtain rfl : args = #[v0, v1] := by cases args; simp_all
  obtain ⟨rfl, rfl⟩ := trodVars_none hV
  have k0 := h0
  have lt0 : ∀ x ∈ p0, x.block < W.heap.size := by obtain ⟨m, hm⟩ := k0; exact DataW.trod_lt m _ _ _ hm
  have k1 := h1
  have lt1 : ∀ x ∈ p1, x.block < W.heap.size := by obtain ⟨m, hm⟩ := k1; exact DataW.trod_lt m _ _ _ hm
  obtain ⟨a0, len0, cap0, rfl⟩ := okWide_slice Try.underlying46 (hval 0 46 v0 rfl rfl)
  obtain ⟨z0, w0⟩ : ∃ zs, IsRow .u8 W a0 len0 cap0 zs := by
    obtain ⟨fuel, hf⟩ := h0
    rcases open_ints Try.underlying46 Try.underlying5 (by kernel_rfl) hf with ⟨hcs, _⟩ | ⟨x, l, c, zs, hcs, _, hl, hm, hz, _, hcell, hwz⟩
    · simp [Value.cells] at hcs
      obtain ⟨rfl, rfl, rfl⟩ := hcs
      exact ⟨[], .inl ⟨rfl, rfl, rfl, rfl⟩⟩
    · simp [Value.cells] at hcs
      obtain ⟨rfl, rfl, rfl⟩ := hcs
      exact ⟨zs, .inr ⟨_, rfl, hl, hm, by simpa using hz, hcell, hwz⟩⟩
  obtain ⟨a1, len1, cap1, rfl⟩ := okWide_slice Try.underlying46 (hval 1 46 v1 rfl rfl)
  obtain ⟨z1, w1⟩ : ∃ zs, IsRow .u8 W a1 len1 cap1 zs := by
    obtain ⟨fuel, hf⟩ := h1
    rcases open_ints Try.underlying46 Try.underlying5 (by kernel_rfl) hf with ⟨hcs, _⟩ | ⟨x, l, c, zs, hcs, _, hl, hm, hz, _, hcell, hwz⟩
    · simp [Value.cells] at hcs
      obtain ⟨rfl, rfl, rfl⟩ := hcs
      exact ⟨[], .inl ⟨rfl, rfl, rfl, rfl⟩⟩
    · simp [Value.cells] at hcs
      obtain ⟨rfl, rfl, rfl⟩ := hcs
      exact ⟨zs, .inr ⟨_, rfl, hl, hm, by simpa using hz, hcell, hwz⟩⟩
  clear hA0 hval0
  refine (walk a0 len0 cap0 z0 a1 len1 cap1 z1 W w0 w1).mono fun e W' ⟨he, bel⟩ => ?_
  subst he
  exact ⟨_, rfl, _, _, _, [], _, [], hW', trodAll_mk1 (shut_bool Try.underlying4 _), (trodAll_cons_mk (Below.trod laidOut (by kernel_rfl) (of_decide_eq_true (by kernel_rfl)) k0 bel lt0) (trodAll_cons_mk (Below.trod laidOut (by kernel_rfl) (of_decide_eq_true (by kernel_rfl)) k1 bel lt1) trodAll_mk0)), rfl, bel.frame _, fun h => by cases h⟩

theorem over : Rows.fnRegisterTicksRow.holds Try.pinned (OpenSpec.ofChange Rows.fnRegisterTicksSpec) :=
  OpenClaim.holds_of_wide 5 Try.f5 rfl rfl rfl rfl rfl rfl rfl ⟨rfl, rfl, rfl, rfl, rfl⟩ rfl rfl rfl rfl rfl (by kernel_rfl) Try.func5 (by kernel_rfl)
    (of_decide_eq_true (by kernel_rfl)) (by unfold Func.isWrapper; first | (rw [if_pos (by decide +kernel)]; kernel_rfl) | (rw [if_neg (by decide +kernel)]; exact ⟨rfl, rfl⟩))
    (fun os started H enc _ => lifted os started H enc)

/-- The given statement. -/
theorem proved : Rows.FnRegisterTicksSaid := over
end Go.Proofs.Ytjlaikmilcgmhaa.fnRegisterTicks
