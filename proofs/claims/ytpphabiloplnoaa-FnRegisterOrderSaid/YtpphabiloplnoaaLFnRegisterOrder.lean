/- The order of two tickets does not matter.
   No condition: it holds for every input. -/
import Derived.Test.YtpphabiloplnoaaRows
import Derived.WalkKit
import Derived.ProofKit
import Derived.OpenShut
import Derived.ShutString
import Derived.ChangeOld
import Derived.Below
import Derived.Lib.SmallJoins
import Derived.Test.YtpphabiloplnoaaHe
import Derived.Test.YtpphabiloplnoaaHf
import Derived.Test.YtpphabiloplnoaaGt
namespace Go.Proofs.Ytpphabiloplnoaa.fnRegisterOrder
open Go.ChangeShapes Go.WideShapes Go.ChangeAt Go.RowKit Go.Joins
open Go.ChangeMaps (open_string shut_string)
set_option linter.unusedVariables false

set_option maxHeartbeats 4000000 in
theorem walk (a0 : Option Addr) (len0 cap0 : Nat) (z0 : List Int) (a1 : Option Addr) (len1 cap1 : Nat) (z1 : List Int) (w : World) (w0 : IsRow .u8 w a0 len0 cap0 z0) (w1 : IsRow .u8 w a1 len1 cap1 z1) :
    Calls Try.prog 8 #[.slice a0 len0 cap0, .slice a1 len1 cap1] w fun e w' => e = .returned (.bool true) ∧ Below w.heap.size w w' := by
  have hm1 : (len1 : Int) ≤ 9223372036854775807 := by
    have w1' := w1
    unfold IsRow maxLen at w1'
    rcases w1' with ⟨_, h, _, _⟩ | ⟨_, _, h1, h2, _⟩ <;> omega
  have W1 := Lib.hid w1
  clear w1
  by_cases hb : (1048576 : Int) < (len0 : Int)
  · go_enter Try.func8, Try.ntmps8
    go_wp2
    go_ret
    exact ⟨rfl, Below.refl _ _⟩
  by_cases hb' : (1048576 : Int) < (len1 : Int)
  · go_enter Try.func8, Try.ntmps8
    go_wp2
    go_ret
    exact ⟨rfl, Below.refl _ _⟩
  have HD := Lib.hid (draw_rtry w a0 len0 cap0 z0 w0)
  clear w0
  go_enter Try.func8, Try.ntmps8
  go_wp2_with fail
  refine HD.out.mono ?_
  rintro e1 w1 ⟨now, t, l, sa, c, rfl, hl9, hlc, ⟨hn1, hn2⟩, hb1, SX1⟩
  clear HD
  have HI := Lib.hid (fun (w' : World) (S : Sl 2 w' w'.heap.size sa l.length (tkG l)) => rtry_impl now t sa l.length c l w' rfl S)
  have HP := Lib.hid (fun (w' : World) (S : Sl 2 w' w'.heap.size sa l.length (tkG l)) => rtry_spec now t sa l.length c l w' rfl hlc S)
  obtain ⟨N, hN⟩ : ∃ x, x = tryN now l t := ⟨_, rfl⟩
  obtain ⟨L, hL⟩ : ∃ x, x = tryS now l t := ⟨_, rfl⟩
  obtain ⟨V, hV⟩ : ∃ x, x = tryV now l t := ⟨_, rfl⟩
  rw [← hN, ← hL, ← hV] at HI HP
  have HN := Lib.hid hN
  have HL := Lib.hid hL
  have HV := Lib.hid hV
  clear hN hL hV
  have SX2 := sl_push (sl_push (SX1) (Obj.cells #[.int .i64 now, .slice sa l.length c] 34)) (Obj.cells #[.int .i64 t.1, .int .i64 t.2] 25)
  have hb2 := bpush (bpush (hb1) (Obj.cells #[.int .i64 now, .slice sa l.length c] 34)) (Obj.cells #[.int .i64 t.1, .int .i64 t.2] 25)
  have BX2 := (Blk.new w1 #[.int .i64 now, .slice sa l.length c] 34).alloc (Obj.cells #[.int .i64 t.1, .int .i64 t.2] 25)
  have BT2 := Blk.new (w1.alloc (Obj.cells #[.int .i64 now, .slice sa l.length c] 34)) #[.int .i64 t.1, .int .i64 t.2] 25
  simp only [World.size_alloc] at BT2
  clear SX1 hb1
  go_wp2_with fail
  obtain ⟨w2, hw2⟩ : ∃ x, x = (w1.alloc (Obj.cells #[.int .i64 now, .slice sa l.length c] 34)).alloc (Obj.cells #[.int .i64 t.1, .int .i64 t.2] 25) := ⟨_, rfl⟩
  rw [← hw2] at BX2 BT2 SX2 hb2 ⊢
  clear hw2
  refine (HI.out w2 SX2).mono ?_
  rintro e1 w3 ⟨aO, cO, rfl, hn3, OO⟩
  have BX3 := BX2.below hn3
  have BT3 := BT2.below hn3
  have SX3 := sl_step SX2 hn3
  have hb3 := bstep hb2 hn3
  have SO3 := OO.sl
  clear BX2 BT2 SX2 hb2 hn3 OO
  have cX0 := BX3.cell 0 rfl
  have cX1 := BX3.cell 1 rfl
  have qX := BX3.lt
  have cT0 := BT3.cell 0 rfl
  have cT1 := BT3.cell 1 rfl
  have qT := BT3.lt
  have BX4 := BX3.alloc (Obj.cells #[.int .i64 N, .slice aO L.length cO] 34)
  have BT4 := BT3.alloc (Obj.cells #[.int .i64 N, .slice aO L.length cO] 34)
  have SX4 := sl_push (SX3) (Obj.cells #[.int .i64 N, .slice aO L.length cO] 34)
  have SO4 := sl_push (SO3) (Obj.cells #[.int .i64 N, .slice aO L.length cO] 34)
  have hb4 := bpush (hb3) (Obj.cells #[.int .i64 N, .slice aO L.length cO] 34)
  have BO4 := Blk.new w3 #[.int .i64 N, .slice aO L.length cO] 34
  go_wp2_with fail
  obtain ⟨w4, hw4⟩ : ∃ x, x = w3.alloc (Obj.cells #[.int .i64 N, .slice aO L.length cO] 34) := ⟨_, rfl⟩
  rw [← hw4] at BX4 BT4 BO4 SX4 SO4 hb4 ⊢
  clear hw4
  clear cX0 cX1 qX cT0 cT1 qT
  clear BX3 BT3 SX3 SO3 hb3
  refine (HP.out w4 SX4).mono ?_
  rintro e1 w5 ⟨aQ, cQ, rfl, hn5, OQ⟩
  have BX5 := BX4.below hn5
  have BT5 := BT4.below hn5
  have BO5 := BO4.below hn5
  have SX5 := sl_step SX4 hn5
  have SO5 := sl_step SO4 hn5
  have hb5 := bstep hb4 hn5
  have SQ5 := OQ.sl
  clear BX4 BT4 BO4 SX4 SO4 hb4 hn5 OQ
  have cX0 := BX5.cell 0 rfl
  have cX1 := BX5.cell 1 rfl
  have qX := BX5.lt
  have cT0 := BT5.cell 0 rfl
  have cT1 := BT5.cell 1 rfl
  have qT := BT5.lt
  have cO0 := BO5.cell 0 rfl
  have cO1 := BO5.cell 1 rfl
  have qO := BO5.lt
  have BX6 := BX5.alloc (Obj.cells #[.int .i64 N, .slice aQ L.length cQ] 34)
  have BT6 := BT5.alloc (Obj.cells #[.int .i64 N, .slice aQ L.length cQ] 34)
  have BO6 := BO5.alloc (Obj.cells #[.int .i64 N, .slice aQ L.length cQ] 34)
  have SX6 := sl_push (SX5) (Obj.cells #[.int .i64 N, .slice aQ L.length cQ] 34)
  have SO6 := sl_push (SO5) (Obj.cells #[.int .i64 N, .slice aQ L.length cQ] 34)
  have SQ6 := sl_push (SQ5) (Obj.cells #[.int .i64 N, .slice aQ L.length cQ] 34)
  have hb6 := bpush (hb5) (Obj.cells #[.int .i64 N, .slice aQ L.length cQ] 34)
  have BQ6 := Blk.new w5 #[.int .i64 N, .slice aQ L.length cQ] 34
  cases V
  · skip
    go_wp2_with fail
    obtain ⟨w6, hw6⟩ : ∃ x, x = w5.alloc (Obj.cells #[.int .i64 N, .slice aQ L.length cQ] 34) := ⟨_, rfl⟩
    rw [← hw6] at BX6 BT6 BO6 BQ6 SX6 SO6 SQ6 hb6 ⊢
    clear hw6
    clear cX0 cX1 qX cT0 cT1 qT cO0 cO1 qO
    clear BX5 BT5 BO5 SX5 SO5 SQ5 hb5
    refine (sameReg_c _ _ _ _ _ _ _ w6 SO6 SQ6).mono ?_
    rintro e1 w7 ⟨rfl, hn7⟩
    have BX7 := BX6.below hn7
    have BT7 := BT6.below hn7
    have BO7 := BO6.below hn7
    have BQ7 := BQ6.below hn7
    have SX7 := sl_step SX6 hn7
    have SO7 := sl_step SO6 hn7
    have SQ7 := sl_step SQ6 hn7
    have hb7 := bstep hb6 hn7
    clear BX6 BT6 BO6 BQ6 SX6 SO6 SQ6 hb6 hn7
    have cO0 := BO7.cell 0 rfl
    have cO1 := BO7.cell 1 rfl
    have qO := BO7.lt
    have cQ0 := BQ7.cell 0 rfl
    have cQ1 := BQ7.cell 1 rfl
    have qQ := BQ7.lt
    go_wp2_with fail
    clear cO0 cO1 qO cQ0 cQ1 qQ
    refine (sameReg_c _ _ _ _ _ _ _ w7 SO7 SQ7).mono ?_
    rintro e1 w8 ⟨rfl, hn8⟩
    have BX8 := BX7.below hn8
    have BT8 := BT7.below hn8
    have BO8 := BO7.below hn8
    have BQ8 := BQ7.below hn8
    have SX8 := sl_step SX7 hn8
    have SO8 := sl_step SO7 hn8
    have SQ8 := sl_step SQ7 hn8
    have hb8 := bstep hb7 hn8
    clear BX7 BT7 BO7 BQ7 SX7 SO7 SQ7 hb7 hn8
    go_wp2_with fail
    go_ret
    exact ⟨rfl, hb8⟩
  · have hv := HV.out.symm
    unfold tryV at hv
    simp only [Bool.and_eq_true] at hv
    obtain ⟨hv1, hv2⟩ := hv
    obtain ⟨E1, E2, _⟩ := try_acc hv1 hv2
    have E1 := (HN.out.trans E1).symm
    have E2 := (HL.out.trans E2).symm
    subst E1
    subst E2
    have HV1 := Lib.hid hv1
    have HV2 := Lib.hid hv2
    clear hv1 hv2 HN HL HV
    go_wp2_with fail
    obtain ⟨w6, hw6⟩ : ∃ x, x = w5.alloc (Obj.cells #[.int .i64 now, .slice aQ (insT t l).length cQ] 34) := ⟨_, rfl⟩
    rw [← hw6] at BX6 BT6 BO6 BQ6 SX6 SO6 SQ6 hb6 ⊢
    clear hw6
    clear cX0 cX1 qX cT0 cT1 qT cO0 cO1 qO
    clear BX5 BT5 BO5 SX5 SO5 SQ5 hb5
    refine (sameReg_c _ _ _ _ _ _ _ w6 SO6 SQ6).mono ?_
    rintro e1 w7 ⟨rfl, hn7⟩
    have BX7 := BX6.below hn7
    have BT7 := BT6.below hn7
    have BO7 := BO6.below hn7
    have BQ7 := BQ6.below hn7
    have SX7 := sl_step SX6 hn7
    have SO7 := sl_step SO6 hn7
    have SQ7 := sl_step SQ6 hn7
    have hb7 := bstep hb6 hn7
    clear BX6 BT6 BO6 BQ6 SX6 SO6 SQ6 hb6 hn7
    have W1 := isrow_below W1.out hb7
    go_wp2_with fail
    refine (draw_rtry _ a1 len1 cap1 z1 W1).mono ?_
    rintro e1 w8 ⟨now2, u, l2, sa2, c2, rfl, hl29, hlc2, ⟨hn21, hn22⟩, hn8, SZ⟩
    have BX8 := BX7.below hn8
    have BT8 := BT7.below hn8
    have BO8 := BO7.below hn8
    have BQ8 := BQ7.below hn8
    have SX8 := sl_step SX7 hn8
    have SO8 := sl_step SO7 hn8
    have SQ8 := sl_step SQ7 hn8
    have hb8 := bstep hb7 hn8
    clear BX7 BT7 BO7 BQ7 SX7 SO7 SQ7 hb7 hn8 SZ
    have cO0 := BO8.cell 0 rfl
    have cO1 := BO8.cell 1 rfl
    have qO := BO8.lt
    have BX9 := (BX8.alloc (Obj.cells #[.int .i64 now2, .slice sa2 l2.length c2] 34)).alloc (Obj.cells #[.int .i64 u.1, .int .i64 u.2] 25)
    have BT9 := (BT8.alloc (Obj.cells #[.int .i64 now2, .slice sa2 l2.length c2] 34)).alloc (Obj.cells #[.int .i64 u.1, .int .i64 u.2] 25)
    have BO9 := (BO8.alloc (Obj.cells #[.int .i64 now2, .slice sa2 l2.length c2] 34)).alloc (Obj.cells #[.int .i64 u.1, .int .i64 u.2] 25)
    have BQ9 := (BQ8.alloc (Obj.cells #[.int .i64 now2, .slice sa2 l2.length c2] 34)).alloc (Obj.cells #[.int .i64 u.1, .int .i64 u.2] 25)
    have SX9 := sl_push (sl_push (SX8) (Obj.cells #[.int .i64 now2, .slice sa2 l2.length c2] 34)) (Obj.cells #[.int .i64 u.1, .int .i64 u.2] 25)
    have SO9 := sl_push (sl_push (SO8) (Obj.cells #[.int .i64 now2, .slice sa2 l2.length c2] 34)) (Obj.cells #[.int .i64 u.1, .int .i64 u.2] 25)
    have SQ9 := sl_push (sl_push (SQ8) (Obj.cells #[.int .i64 now2, .slice sa2 l2.length c2] 34)) (Obj.cells #[.int .i64 u.1, .int .i64 u.2] 25)
    have hb9 := bpush (bpush (hb8) (Obj.cells #[.int .i64 now2, .slice sa2 l2.length c2] 34)) (Obj.cells #[.int .i64 u.1, .int .i64 u.2] 25)
    have BZ9 := (Blk.new w8 #[.int .i64 now2, .slice sa2 l2.length c2] 34).alloc (Obj.cells #[.int .i64 u.1, .int .i64 u.2] 25)
    have BU9 := Blk.new (w8.alloc (Obj.cells #[.int .i64 now2, .slice sa2 l2.length c2] 34)) #[.int .i64 u.1, .int .i64 u.2] 25
    simp only [World.size_alloc] at BU9
    go_wp2_with fail
    obtain ⟨w9, hw9⟩ : ∃ x, x = (w8.alloc (Obj.cells #[.int .i64 now2, .slice sa2 l2.length c2] 34)).alloc (Obj.cells #[.int .i64 u.1, .int .i64 u.2] 25) := ⟨_, rfl⟩
    rw [← hw9] at BX9 BT9 BO9 BQ9 BZ9 BU9 SX9 SO9 SQ9 hb9 ⊢
    clear hw9
    clear cO0 cO1 qO
    clear BX8 BT8 BO8 BQ8 SX8 SO8 SQ8 hb8
    have HC := Lib.hid (rtry_impl now u aO (insT t l).length cO (insT t l) w9 rfl SO9)
    obtain ⟨N2, hN2⟩ : ∃ x, x = tryN now (insT t l) u := ⟨_, rfl⟩
    obtain ⟨L2, hL2⟩ : ∃ x, x = tryS now (insT t l) u := ⟨_, rfl⟩
    obtain ⟨V2, hV2⟩ : ∃ x, x = tryV now (insT t l) u := ⟨_, rfl⟩
    rw [← hN2, ← hL2, ← hV2] at HC
    have HN2 := Lib.hid hN2
    have HL2 := Lib.hid hL2
    have HV3 := Lib.hid hV2
    clear hN2 hL2 hV2
    refine (HC.out).mono ?_
    rintro e1 w10 ⟨aY, cY, rfl, hn10, OY⟩
    have BX10 := BX9.below hn10
    have BT10 := BT9.below hn10
    have BO10 := BO9.below hn10
    have BQ10 := BQ9.below hn10
    have BZ10 := BZ9.below hn10
    have BU10 := BU9.below hn10
    have SX10 := sl_step SX9 hn10
    have SO10 := sl_step SO9 hn10
    have SQ10 := sl_step SQ9 hn10
    have hb10 := bstep hb9 hn10
    have SY10 := OY.sl
    clear BX9 BT9 BO9 BQ9 BZ9 BU9 SX9 SO9 SQ9 hb9 hn10 OY HC
    cases V2
    · go_wp2_with fail
      go_ret
      exact ⟨rfl, bpush hb10 _⟩
    · skip
      obtain ⟨J1, J2, J3, ⟨J4, J5, J6⟩, J7⟩ := order_t HV1.out HV2.out HV3.out.symm
      have E1 := (HN2.out.trans J2).symm
      have E2 := (HL2.out.trans J3).symm
      subst E2
      subst E1
      have HJ := Lib.hid (And.intro J1 (And.intro J4 (And.intro J5 (And.intro J6 J7))))
      clear HN2 HL2 HV3 J1 J2 J3 J4 J5 J6 J7
      have cX0 := BX10.cell 0 rfl
      have cX1 := BX10.cell 1 rfl
      have qX := BX10.lt
      have cU0 := BU10.cell 0 rfl
      have cU1 := BU10.cell 1 rfl
      have qU := BU10.lt
      have BX11 := BX10.alloc (Obj.cells #[.int .i64 now, .slice aY (insT u (insT t l)).length cY] 34)
      have BT11 := BT10.alloc (Obj.cells #[.int .i64 now, .slice aY (insT u (insT t l)).length cY] 34)
      have BO11 := BO10.alloc (Obj.cells #[.int .i64 now, .slice aY (insT u (insT t l)).length cY] 34)
      have BQ11 := BQ10.alloc (Obj.cells #[.int .i64 now, .slice aY (insT u (insT t l)).length cY] 34)
      have BZ11 := BZ10.alloc (Obj.cells #[.int .i64 now, .slice aY (insT u (insT t l)).length cY] 34)
      have BU11 := BU10.alloc (Obj.cells #[.int .i64 now, .slice aY (insT u (insT t l)).length cY] 34)
      have SX11 := sl_push (SX10) (Obj.cells #[.int .i64 now, .slice aY (insT u (insT t l)).length cY] 34)
      have SO11 := sl_push (SO10) (Obj.cells #[.int .i64 now, .slice aY (insT u (insT t l)).length cY] 34)
      have SQ11 := sl_push (SQ10) (Obj.cells #[.int .i64 now, .slice aY (insT u (insT t l)).length cY] 34)
      have SY11 := sl_push (SY10) (Obj.cells #[.int .i64 now, .slice aY (insT u (insT t l)).length cY] 34)
      have hb11 := bpush (hb10) (Obj.cells #[.int .i64 now, .slice aY (insT u (insT t l)).length cY] 34)
      have BY11 := Blk.new w10 #[.int .i64 now, .slice aY (insT u (insT t l)).length cY] 34
      go_wp2_with fail
      obtain ⟨w11, hw11⟩ : ∃ x, x = w10.alloc (Obj.cells #[.int .i64 now, .slice aY (insT u (insT t l)).length cY] 34) := ⟨_, rfl⟩
      rw [← hw11] at BX11 BT11 BO11 BQ11 BZ11 BU11 BY11 SX11 SO11 SQ11 SY11 hb11 ⊢
      clear hw11
      clear cX0 cX1 qX cU0 cU1 qU
      clear BX10 BT10 BO10 BQ10 BZ10 BU10 SX10 SO10 SQ10 SY10 hb10
      obtain ⟨K1, K2, K3⟩ := HJ.out.1
      have HC := Lib.hid (rtry_impl now u sa l.length c l w11 rfl SX11)
      rw [K1, K2, K3] at HC
      clear K1 K2 K3
      refine (HC.out).mono ?_
      rintro e1 w12 ⟨aA, cA, rfl, hn12, OA⟩
      have BX12 := BX11.below hn12
      have BT12 := BT11.below hn12
      have BO12 := BO11.below hn12
      have BQ12 := BQ11.below hn12
      have BZ12 := BZ11.below hn12
      have BU12 := BU11.below hn12
      have BY12 := BY11.below hn12
      have SX12 := sl_step SX11 hn12
      have SO12 := sl_step SO11 hn12
      have SQ12 := sl_step SQ11 hn12
      have SY12 := sl_step SY11 hn12
      have hb12 := bstep hb11 hn12
      have SA12 := OA.sl
      clear BX11 BT11 BO11 BQ11 BZ11 BU11 BY11 SX11 SO11 SQ11 SY11 hb11 hn12 OA HC
      have cT0 := BT12.cell 0 rfl
      have cT1 := BT12.cell 1 rfl
      have qT := BT12.lt
      have BX13 := BX12.alloc (Obj.cells #[.int .i64 now, .slice aA (insT u l).length cA] 34)
      have BT13 := BT12.alloc (Obj.cells #[.int .i64 now, .slice aA (insT u l).length cA] 34)
      have BO13 := BO12.alloc (Obj.cells #[.int .i64 now, .slice aA (insT u l).length cA] 34)
      have BQ13 := BQ12.alloc (Obj.cells #[.int .i64 now, .slice aA (insT u l).length cA] 34)
      have BZ13 := BZ12.alloc (Obj.cells #[.int .i64 now, .slice aA (insT u l).length cA] 34)
      have BU13 := BU12.alloc (Obj.cells #[.int .i64 now, .slice aA (insT u l).length cA] 34)
      have BY13 := BY12.alloc (Obj.cells #[.int .i64 now, .slice aA (insT u l).length cA] 34)
      have SX13 := sl_push (SX12) (Obj.cells #[.int .i64 now, .slice aA (insT u l).length cA] 34)
      have SO13 := sl_push (SO12) (Obj.cells #[.int .i64 now, .slice aA (insT u l).length cA] 34)
      have SQ13 := sl_push (SQ12) (Obj.cells #[.int .i64 now, .slice aA (insT u l).length cA] 34)
      have SY13 := sl_push (SY12) (Obj.cells #[.int .i64 now, .slice aA (insT u l).length cA] 34)
      have SA13 := sl_push (SA12) (Obj.cells #[.int .i64 now, .slice aA (insT u l).length cA] 34)
      have hb13 := bpush (hb12) (Obj.cells #[.int .i64 now, .slice aA (insT u l).length cA] 34)
      have BA13 := Blk.new w12 #[.int .i64 now, .slice aA (insT u l).length cA] 34
      go_wp2_with fail
      obtain ⟨w13, hw13⟩ : ∃ x, x = w12.alloc (Obj.cells #[.int .i64 now, .slice aA (insT u l).length cA] 34) := ⟨_, rfl⟩
      rw [← hw13] at BX13 BT13 BO13 BQ13 BZ13 BU13 BY13 BA13 SX13 SO13 SQ13 SY13 SA13 hb13 ⊢
      clear hw13
      clear cT0 cT1 qT
      clear BX12 BT12 BO12 BQ12 BZ12 BU12 BY12 SX12 SO12 SQ12 SY12 SA12 hb12
      obtain ⟨_, J4, J5, J6, J7⟩ := HJ.out
      have HC := Lib.hid (rtry_impl now t aA (insT u l).length cA (insT u l) w13 rfl SA13)
      rw [J4, J5, J6, ← J7] at HC
      clear J4 J5 J6 J7
      refine (HC.out).mono ?_
      rintro e1 w14 ⟨aD, cD, rfl, hn14, OD⟩
      have BX14 := BX13.below hn14
      have BT14 := BT13.below hn14
      have BO14 := BO13.below hn14
      have BQ14 := BQ13.below hn14
      have BZ14 := BZ13.below hn14
      have BU14 := BU13.below hn14
      have BY14 := BY13.below hn14
      have BA14 := BA13.below hn14
      have SX14 := sl_step SX13 hn14
      have SO14 := sl_step SO13 hn14
      have SQ14 := sl_step SQ13 hn14
      have SY14 := sl_step SY13 hn14
      have SA14 := sl_step SA13 hn14
      have hb14 := bstep hb13 hn14
      have SD14 := OD.sl
      clear BX13 BT13 BO13 BQ13 BZ13 BU13 BY13 BA13 SX13 SO13 SQ13 SY13 SA13 hb13 hn14 OD HC
      have cY0 := BY14.cell 0 rfl
      have cY1 := BY14.cell 1 rfl
      have qY := BY14.lt
      have BX15 := BX14.alloc (Obj.cells #[.int .i64 now, .slice aD (insT u (insT t l)).length cD] 34)
      have BT15 := BT14.alloc (Obj.cells #[.int .i64 now, .slice aD (insT u (insT t l)).length cD] 34)
      have BO15 := BO14.alloc (Obj.cells #[.int .i64 now, .slice aD (insT u (insT t l)).length cD] 34)
      have BQ15 := BQ14.alloc (Obj.cells #[.int .i64 now, .slice aD (insT u (insT t l)).length cD] 34)
      have BZ15 := BZ14.alloc (Obj.cells #[.int .i64 now, .slice aD (insT u (insT t l)).length cD] 34)
      have BU15 := BU14.alloc (Obj.cells #[.int .i64 now, .slice aD (insT u (insT t l)).length cD] 34)
      have BY15 := BY14.alloc (Obj.cells #[.int .i64 now, .slice aD (insT u (insT t l)).length cD] 34)
      have BA15 := BA14.alloc (Obj.cells #[.int .i64 now, .slice aD (insT u (insT t l)).length cD] 34)
      have SX15 := sl_push (SX14) (Obj.cells #[.int .i64 now, .slice aD (insT u (insT t l)).length cD] 34)
      have SO15 := sl_push (SO14) (Obj.cells #[.int .i64 now, .slice aD (insT u (insT t l)).length cD] 34)
      have SQ15 := sl_push (SQ14) (Obj.cells #[.int .i64 now, .slice aD (insT u (insT t l)).length cD] 34)
      have SY15 := sl_push (SY14) (Obj.cells #[.int .i64 now, .slice aD (insT u (insT t l)).length cD] 34)
      have SA15 := sl_push (SA14) (Obj.cells #[.int .i64 now, .slice aD (insT u (insT t l)).length cD] 34)
      have SD15 := sl_push (SD14) (Obj.cells #[.int .i64 now, .slice aD (insT u (insT t l)).length cD] 34)
      have hb15 := bpush (hb14) (Obj.cells #[.int .i64 now, .slice aD (insT u (insT t l)).length cD] 34)
      have BD15 := Blk.new w14 #[.int .i64 now, .slice aD (insT u (insT t l)).length cD] 34
      go_wp2_with fail
      obtain ⟨w15, hw15⟩ : ∃ x, x = w14.alloc (Obj.cells #[.int .i64 now, .slice aD (insT u (insT t l)).length cD] 34) := ⟨_, rfl⟩
      rw [← hw15] at BX15 BT15 BO15 BQ15 BZ15 BU15 BY15 BA15 BD15 SX15 SO15 SQ15 SY15 SA15 SD15 hb15 ⊢
      clear hw15
      clear cY0 cY1 qY
      clear BX14 BT14 BO14 BQ14 BZ14 BU14 BY14 BA14 SX14 SO14 SQ14 SY14 SA14 SD14 hb14
      refine (sameReg_c now _ _ _ _ _ (insT u (insT t l)) w15 SD15 SY15).mono ?_
      rintro e1 w16 ⟨rfl, hn16⟩
      have BX16 := BX15.below hn16
      have BT16 := BT15.below hn16
      have BO16 := BO15.below hn16
      have BQ16 := BQ15.below hn16
      have BZ16 := BZ15.below hn16
      have BU16 := BU15.below hn16
      have BY16 := BY15.below hn16
      have BA16 := BA15.below hn16
      have BD16 := BD15.below hn16
      have SX16 := sl_step SX15 hn16
      have SO16 := sl_step SO15 hn16
      have SQ16 := sl_step SQ15 hn16
      have SY16 := sl_step SY15 hn16
      have SA16 := sl_step SA15 hn16
      have SD16 := sl_step SD15 hn16
      have hb16 := bstep hb15 hn16
      clear BX15 BT15 BO15 BQ15 BZ15 BU15 BY15 BA15 BD15 SX15 SO15 SQ15 SY15 SA15 SD15 hb15 hn16
      go_wp2_with fail
      go_ret
      exact ⟨rfl, hb16⟩

theorem own : ownKnob Try.prog.godebug = none := by kernel_rfl
theorem laidOut : laidOutB Try.prog = true := by kernel_rfl

set_option maxRecDepth 100000 in
theorem lifted (os : Os) (started : os.Started) (H : Type) (enc : TypeId × Value → H) :
    ReturnsInHanded {} Try.checked os 8 .any (Rows.fnRegisterOrderSpec.pre6 enc Try.prog Try.f8 Rows.fnRegisterOrderRow.domain false) (Rows.fnRegisterOrderSpec.post enc Try.prog Try.f8 false true false false) := by
  refine returnsInHanded_of_change (C := Try.checked) own started (by kernel_rfl) Try.func8
    (ChangeSpec.witness6 (enc := enc) (C := Try.checked) false ⟨#[], #[.slice none 0 0, .slice none 0 0], []⟩ 8 (by kernel_rfl) (by kernel_rfl) (by kernel_rfl) (by kernel_rfl)) ?_
  intro W base args ds gs before hval0 hW hcnd _
  have hval : ∀ (j : Nat) t v, Try.f8.params[j]? = some t → args[j]? = some v → Value.okWide Try.prog W .any base t v := hval0
  have hW' := hW
  obtain ⟨p, q, hA0, hV, rfl, hfz, hnd⟩ := hW
  have hA : DataW.TrodAll enc Try.prog W 0 (fun _ => true) true Try.f8.params.toList args.toList ds p := hA0
  rw [Try.params8] at hA hval
  obtain ⟨v0, vs0, d0, ds0, p0, q0, hargs, rfl, rfl, h0, r0⟩ := trodAll_cons hA
  obtain ⟨v1, vs1, d1, ds1, p1, q1, rfl, rfl, rfl, h1, r1⟩ := trodAll_cons r0
  obtain ⟨rfl, rfl, rfl⟩ := trodAll_nil r1
  obtain rfl : args = #[v0, v1] := by cases args; simp_all
  obtain ⟨rfl, rfl⟩ := trodVars_none hV
  have k0 := h0
  have lt0 : ∀ x ∈ p0, x.block < W.heap.size := by obtain ⟨m, hm⟩ := k0; exact DataW.trod_lt m _ _ _ hm
  have k1 := h1
  have lt1 : ∀ x ∈ p1, x.block < W.heap.size := by obtain ⟨m, hm⟩ := k1; exact DataW.trod_lt m _ _ _ hm
  obtain ⟨a0, len0, cap0, rfl⟩ := okWide_slice Try.underlying22 (hval 0 22 v0 rfl rfl)
  obtain ⟨z0, w0⟩ : ∃ zs, IsRow .u8 W a0 len0 cap0 zs := by
    obtain ⟨fuel, hf⟩ := h0
    rcases open_ints Try.underlying22 Try.underlying5 (by kernel_rfl) hf with ⟨hcs, _⟩ | ⟨x, l, c, zs, hcs, _, hl, hm, hz, _, hcell, hwz⟩
    · simp [Value.cells] at hcs
      obtain ⟨rfl, rfl, rfl⟩ := hcs
      exact ⟨[], .inl ⟨rfl, rfl, rfl, rfl⟩⟩
    · simp [Value.cells] at hcs
      obtain ⟨rfl, rfl, rfl⟩ := hcs
      exact ⟨zs, .inr ⟨_, rfl, hl, hm, by simpa using hz, hcell, hwz⟩⟩
  obtain ⟨a1, len1, cap1, rfl⟩ := okWide_slice Try.underlying22 (hval 1 22 v1 rfl rfl)
  obtain ⟨z1, w1⟩ : ∃ zs, IsRow .u8 W a1 len1 cap1 zs := by
    obtain ⟨fuel, hf⟩ := h1
    rcases open_ints Try.underlying22 Try.underlying5 (by kernel_rfl) hf with ⟨hcs, _⟩ | ⟨x, l, c, zs, hcs, _, hl, hm, hz, _, hcell, hwz⟩
    · simp [Value.cells] at hcs
      obtain ⟨rfl, rfl, rfl⟩ := hcs
      exact ⟨[], .inl ⟨rfl, rfl, rfl, rfl⟩⟩
    · simp [Value.cells] at hcs
      obtain ⟨rfl, rfl, rfl⟩ := hcs
      exact ⟨zs, .inr ⟨_, rfl, hl, hm, by simpa using hz, hcell, hwz⟩⟩
  clear hA0 hval0
  refine (walk a0 len0 cap0 z0 a1 len1 cap1 z1 W w0 w1).mono fun e W' ⟨he, bel⟩ => ?_
  subst he
  exact ⟨_, rfl, _, _, _, [], _, [], hW', trodAll_mk1 (shut_bool Try.underlying4 _), (trodAll_cons_mk (Below.trod laidOut (by kernel_rfl) (of_decide_eq_true (by kernel_rfl)) k0 bel lt0) (trodAll_cons_mk (Below.trod laidOut (by kernel_rfl) (of_decide_eq_true (by kernel_rfl)) k1 bel lt1) trodAll_mk0)), rfl, bel.frame _, fun h => by cases h⟩

theorem over : Rows.fnRegisterOrderRow.holds Try.pinned (OpenSpec.ofChange Rows.fnRegisterOrderSpec) :=
  OpenClaim.holds_of_wide 8 Try.f8 rfl rfl rfl rfl rfl rfl rfl ⟨rfl, rfl, rfl, rfl, rfl⟩ rfl rfl rfl rfl rfl (by kernel_rfl) Try.func8 (by kernel_rfl)
    (of_decide_eq_true (by kernel_rfl)) (by unfold Func.isWrapper; first | (rw [if_pos (by decide +kernel)]; kernel_rfl) | (rw [if_neg (by decide +kernel)]; exact ⟨rfl, rfl⟩))
    (fun os started H enc _ => lifted os started H enc)

/-- The given statement. -/
theorem proved : Rows.FnRegisterOrderSaid := over
end Go.Proofs.Ytpphabiloplnoaa.fnRegisterOrder
