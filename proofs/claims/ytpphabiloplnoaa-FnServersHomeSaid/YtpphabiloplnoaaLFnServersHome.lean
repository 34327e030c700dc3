/- Only the home server accepts a ticket.
   No condition: it holds for every input. -/
import Derived.Test.YtpphabiloplnoaaRows
import Derived.WalkKit
import Derived.ProofKit
import Derived.OpenShut
import Derived.ShutString
import Derived.ChangeOld
import Derived.Below
import Derived.Lib.SmallJoins
import Derived.Test.YtpphabiloplnoaaSf
namespace Go.Proofs.Ytpphabiloplnoaa.fnServersHome
open Go.ChangeShapes Go.WideShapes Go.ChangeAt Go.RowKit Go.Joins
open Go.ChangeMaps (open_string shut_string)
set_option linter.unusedVariables false

set_option maxHeartbeats 4000000 in
theorem walk (a0 : Option Addr) (len0 cap0 : Nat) (z0 : List Int) (w : World) (w0 : IsRow .u8 w a0 len0 cap0 z0) :
    Calls Try.prog 11 #[.slice a0 len0 cap0] w fun e w' => e = .returned (.bool true) ∧ Below w.heap.size w w' := by
  by_cases hb : (1048576 : Int) < (len0 : Int)
  · go_enter Try.func11, Try.ntmps11
    go_wp2
    go_ret
    exact ⟨rfl, Below.refl _ _⟩
  have HD := Lib.hid (draw_srv w a0 len0 cap0 z0 w0)
  clear w0
  go_enter Try.func11, Try.ntmps11
  go_wp2_with fail
  refine HD.out.mono ?_
  rintro e1 w1 ⟨ss, sa, c, A, t, rfl, hl4, hb1, NS1⟩
  clear HD
  have HI := Lib.hid (fun (w' : World) (S : Nr w' w'.heap.size sa ss.length ss) => stry_impl A t sa ss.length c ss w' S)
  have HP := Lib.hid (fun (w' : World) (S : Ns 2 tkG w' w'.heap.size sa ss.length ss) => stry_spec A t sa ss.length c ss w' S)
  obtain ⟨R, hR⟩ : ∃ x, x = sRes ss A t := ⟨_, rfl⟩
  obtain ⟨V, hV⟩ : ∃ x, x = sV ss A t := ⟨_, rfl⟩
  rw [← hR, ← hV] at HI HP
  have HR := Lib.hid hR
  have HV := Lib.hid hV
  clear hR hV
  have NS2 := ns_push NS1 (Obj.cells #[.int .i64 t.1, .int .i64 t.2] 25)
  have hb2 := bpush hb1 (Obj.cells #[.int .i64 t.1, .int .i64 t.2] 25)
  have BT2 := Blk.new w1 #[.int .i64 t.1, .int .i64 t.2] 25
  clear NS1 hb1
  go_wp2_with fail
  obtain ⟨w2, hw2⟩ : ∃ x, x = w1.alloc (Obj.cells #[.int .i64 t.1, .int .i64 t.2] 25) := ⟨_, rfl⟩
  rw [← hw2] at BT2 NS2 hb2 ⊢
  clear hw2
  refine (HI.out w2 NS2.nr).mono ?_
  rintro e1 w3 ⟨aO, cO, rfl, hn3, SO3⟩
  have BT3 := BT2.below hn3
  have NS3 := ns_step NS2 hn3
  have hb3 := bstep hb2 hn3
  have cT0 := BT3.cell 0 rfl
  have cT1 := BT3.cell 1 rfl
  have qT := BT3.lt
  clear BT2 NS2 hb2 hn3
  go_wp2_with fail
  refine (HP.out w3 NS3).mono ?_
  rintro e1 w4 ⟨aQ, cQ, rfl, hn4, SQ4⟩
  have BT4 := BT3.below hn4
  have NS4 := ns_step NS3 hn4
  have SO4 := nr_step SO3 hn4
  have hb4 := bstep hb3 hn4
  have hRn := SQ4.len
  clear BT3 NS3 SO3 hb3 hn4 cT0 cT1 qT
  cases V
  · go_wp2_with fail
    refine (sameRegs_c aO aQ R.length cO cQ R w4 SO4 SQ4).mono ?_
    rintro e1 w5 ⟨rfl, hn5⟩
    have BT5 := BT4.below hn5
    have NS5 := ns_step NS4 hn5
    have SO5 := nr_step SO4 hn5
    have SQ5 := nr_step SQ4 hn5
    have hb5 := bstep hb4 hn5
    clear BT4 NS4 SO4 SQ4 hb4 hn5
    go_wp2_with fail
    refine (sameRegs_c aO aQ R.length cO cQ R w5 SO5 SQ5).mono ?_
    rintro e1 w6 ⟨rfl, hn6⟩
    have BT6 := BT5.below hn6
    have NS6 := ns_step NS5 hn6
    have SO6 := nr_step SO5 hn6
    have SQ6 := nr_step SQ5 hn6
    have hb6 := bstep hb5 hn6
    clear BT5 NS5 SO5 SQ5 hb5 hn6
    go_wp2_with fail
    go_ret
    exact ⟨rfl, hb6⟩
  · go_wp2_with fail
    refine (sameRegs_c aO aQ R.length cO cQ R w4 SO4 SQ4).mono ?_
    rintro e1 w5 ⟨rfl, hn5⟩
    have BT5 := BT4.below hn5
    have NS5 := ns_step NS4 hn5
    have SO5 := nr_step SO4 hn5
    have SQ5 := nr_step SQ4 hn5
    have hb5 := bstep hb4 hn5
    clear BT4 NS4 SO4 SQ4 hb4 hn5
    obtain ⟨hRl, ⟨hl1, _⟩, ⟨hA0, hA1⟩, hH, hO⟩ := home_s HV.out.symm
    rw [← HR.out] at hRl hO
    have HH := Lib.hid hH
    have HOT := Lib.hid hO
    have HRl := Lib.hid hRl
    clear hRl
    have HSO := Lib.hid SO5
    have HNS := Lib.hid NS5.nr
    have HBT := Lib.hid BT5
    have k5 := Below.refl w5.heap.size w5
    clear hH hO SQ5 SO5 NS5 BT5
    go_wp2_with fail
    go_loopw [10] (fun i wr => ∃ k : Nat, k ≤ ss.length ∧ i = .int .i64 k ∧ Below w5.heap.size w5 wr) (fun i _ => ss.length - (intOf i).toNat)
    case atStart => exact ⟨0, by omega, rfl, k5⟩
    case round =>
      obtain ⟨k, hk, rfl, hbk⟩ := hrel
      clear k5
      by_cases hlt : k < ss.length
      · have hki : (k : Int) < (ss.length : Int) := by omega
        obtain ⟨b, off, a2, c2, rfl, hB, x0, x1, hs⟩ := (HSO.out.below hbk).at (show k < R.length by rw [HRl.out]; exact hlt)
        obtain ⟨b', off', a3, c3, rfl, hB', y0, y1, hs'⟩ := (HNS.out.below hbk).at hlt
        have hkR : (k : Int) < (R.length : Int) := by rw [HRl.out]; exact hki
        by_cases hkA : (k : Int) = A
        · subst hkA
          clear hs hs'
          go_wp2_with fail
          go_quiet (fail)
          go_wp2_with fail
          go_roundw
          case rel => exact ⟨k + 1, by omega, by go_num, bdrewN hbk _⟩
          case measure => simp [intOf]; omega
        · have hkn : ((k : Int) != A) = true := by simp [hkA]
          have e := HOT.out k hkA
          rw [e] at x0 x1 hs
          obtain ⟨bx, hbx⟩ : ∃ p, ss.getD k (0, []) = p := ⟨_, rfl⟩
          rw [hbx] at x0 x1 hs y0 y1 hs'
          have HE := Lib.hid (fun (x : Ext wr) => ext_of (x := x) (sameReg_c bx.1 a2 a3 bx.2.length c2 c3 bx.2 x.out (((hs.mono hbk.size).below x.ok).mono x.ok.size) (((hs'.mono hbk.size).below x.ok).mono x.ok.size)))
          have hz := hbk.size
          have x0 := ext_cell x0 (Nat.lt_of_lt_of_le hB hz)
          have x1 := ext_cell x1 (Nat.lt_of_lt_of_le hB hz)
          have y0 := ext_cell y0 (Nat.lt_of_lt_of_le hB' hz)
          have y1 := ext_cell y1 (Nat.lt_of_lt_of_le hB' hz)
          have g5 : IntKind.i64.wrap (k : Int) = k := IntWalk.i64_in _ (by omega)
          have hkd : decide ((k : Int) = A) = false := decide_eq_false hkA
          clear hbx hs hs' e
          go_wp2_with fail
          refine wp_region_ext (by kernel_rfl) (by kernel_rfl) ?_
          repeat (go_big_quiet_step ((first | (go_at_call 20; exact HE.out _))))
          refine wpQuiet_nil ?_
          rintro _ ⟨⟨w2, hw2⟩, rfl⟩
          clear x0 x1 y0 y1
          go_wp2_with fail
          go_roundw
          case rel => exact ⟨k + 1, by omega, by go_num, bstep hbk hw2⟩
          case measure => simp [intOf]; omega
      · obtain rfl : k = ss.length := by omega
        have BTr := HBT.out.below hbk
        have cT0 := BTr.cell 0 rfl
        have cT1 := BTr.cell 1 rfl
        have hbr := bstep hb5 hbk
        go_wp2_with fail
        refine (home_impl ss.length t.1 t.2 _).mono ?_
        rintro e w6 ⟨rfl, hb6⟩
        rw [HH.out]
        have hb7 := bstep hbr hb6
        have hRli : (R.length : Int) = (ss.length : Int) := by rw [HRl.out]
        go_wp2_with fail
        go_ret
        exact ⟨rfl, hb7⟩

theorem own : ownKnob Try.prog.godebug = none := by kernel_rfl
theorem laidOut : laidOutB Try.prog = true := by kernel_rfl

set_option maxRecDepth 100000 in
theorem lifted (os : Os) (started : os.Started) (H : Type) (enc : TypeId × Value → H) :
    ReturnsInHanded {} Try.checked os 11 .any (Rows.fnServersHomeSpec.pre6 enc Try.prog Try.f11 Rows.fnServersHomeRow.domain false) (Rows.fnServersHomeSpec.post enc Try.prog Try.f11 false true false false) := by
  refine returnsInHanded_of_change (C := Try.checked) own started (by kernel_rfl) Try.func11
    (ChangeSpec.witness6 (enc := enc) (C := Try.checked) false ⟨#[], #[.slice none 0 0], []⟩ 8 (by kernel_rfl) (by kernel_rfl) (by kernel_rfl) (by kernel_rfl)) ?_
  intro W base args ds gs before hval0 hW hcnd _
  have hval : ∀ (j : Nat) t v, Try.f11.params[j]? = some t → args[j]? = some v → Value.okWide Try.prog W .any base t v := hval0
  have hW' := hW
  obtain ⟨p, q, hA0, hV, rfl, hfz, hnd⟩ := hW
  have hA : DataW.TrodAll enc Try.prog W 0 (fun _ => true) true Try.f11.params.toList args.toList ds p := hA0
  rw [Try.params11] at hA hval
  obtain ⟨v0, vs0, d0, ds0, p0, q0, hargs, rfl, rfl, h0, r0⟩ := trodAll_cons hA
  obtain ⟨rfl, rfl, rfl⟩ := trodAll_nil r0
  obtain rfl : args = #[v0] := by cases args; simp_all
  obtain ⟨rfl, rfl⟩ := trodVars_none hV
  have k0 := h0
  have lt0 : ∀ x ∈ p0, x.block < W.heap.size := by obtain ⟨m, hm⟩ := k0; exact DataW.trod_lt m _ _ _ hm
  obtain ⟨a0, len0, cap0, rfl⟩ := okWide_slice Try.underlying22 (hval 0 22 v0 rfl rfl)
  obtain ⟨z0, w0⟩ : ∃ zs, IsRow .u8 W a0 len0 cap0 zs := by
    obtain ⟨fuel, hf⟩ := h0
    rcases open_ints Try.underlying22 Try.underlying5 (by kernel_rfl) hf with ⟨hcs, _⟩ | ⟨x, l, c, zs, hcs, _, hl, hm, hz, _, hcell, hwz⟩
    · simp [Value.cells] at hcs
      obtain ⟨rfl, rfl, rfl⟩ := hcs
      exact ⟨[], .inl ⟨rfl, rfl, rfl, rfl⟩⟩
    · simp [Value.cells] at hcs
      obtain ⟨rfl, rfl, rfl⟩ := hcs
      exact ⟨zs, .inr ⟨_, rfl, hl, hm, by simpa using hz, hcell, hwz⟩⟩
  clear hA0 hval0
  refine (walk a0 len0 cap0 z0 W w0).mono fun e W' ⟨he, bel⟩ => ?_
  subst he
  exact ⟨_, rfl, _, _, _, [], _, [], hW', trodAll_mk1 (shut_bool Try.underlying4 _), (trodAll_cons_mk (Below.trod laidOut (by kernel_rfl) (of_decide_eq_true (by kernel_rfl)) k0 bel lt0) trodAll_mk0), rfl, bel.frame _, fun h => by cases h⟩

theorem over : Rows.fnServersHomeRow.holds Try.pinned (OpenSpec.ofChange Rows.fnServersHomeSpec) :=
  OpenClaim.holds_of_wide 11 Try.f11 rfl rfl rfl rfl rfl rfl rfl ⟨rfl, rfl, rfl, rfl, rfl⟩ rfl rfl rfl rfl rfl (by kernel_rfl) Try.func11 (by kernel_rfl)
    (of_decide_eq_true (by kernel_rfl)) (by unfold Func.isWrapper; first | (rw [if_pos (by decide +kernel)]; kernel_rfl) | (rw [if_neg (by decide +kernel)]; exact ⟨rfl, rfl⟩))
    (fun os started H enc _ => lifted os started H enc)

/-- The given statement. -/
theorem proved : Rows.FnServersHomeSaid := over
end Go.Proofs.Ytpphabiloplnoaa.fnServersHome
