/- Replaying a ticket everywhere is accepted at most once.
   No condition: it holds for every input. -/
import Derived.Test.YtpphabiloplnoaaRows
import Derived.WalkKit
import Derived.ProofKit
import Derived.OpenShut
import Derived.ShutString
import Derived.ChangeOld
import Derived.Below
import Derived.Lib.SmallJoins
import Derived.Test.YtpphabiloplnoaaSf
namespace Go.Proofs.Ytpphabiloplnoaa.fnServersReplay
open Go.ChangeShapes Go.WideShapes Go.ChangeAt Go.RowKit Go.Joins
open Go.ChangeMaps (open_string shut_string)
set_option linter.unusedVariables false

set_option maxHeartbeats 4000000 in
theorem walk (a0 : Option Addr) (len0 cap0 : Nat) (z0 : List Int) (w : World) (w0 : IsRow .u8 w a0 len0 cap0 z0) :
    Calls Try.prog 4 #[.slice a0 len0 cap0] w fun e w' => e = .returned (.bool true) ∧ Below w.heap.size w w' := by
  by_cases hb : (1048576 : Int) < (len0 : Int)
  · go_enter Try.func4, Try.ntmps4
    go_wp2
    go_ret
    exact ⟨rfl, Below.refl _ _⟩
  have HD := Lib.hid (draw_srv w a0 len0 cap0 z0 w0)
  clear w0
  go_enter Try.func4, Try.ntmps4
  go_wp2_with fail
  refine HD.out.mono ?_
  rintro e1 w1 ⟨ss, sa, c, A, t, rfl, hl4, hb1, NS1⟩
  clear HD
  have HI := Lib.hid (fun (w' : World) (S : Nr w' w'.heap.size sa ss.length ss) => stry_impl A t sa ss.length c ss w' S)
  have HP := Lib.hid (fun (w' : World) (S : Ns 2 tkG w' w'.heap.size sa ss.length ss) => stry_spec A t sa ss.length c ss w' S)
  obtain ⟨R, hR⟩ : ∃ x, x = sRes ss A t := ⟨_, rfl⟩
  obtain ⟨V, hV⟩ : ∃ x, x = sV ss A t := ⟨_, rfl⟩
  rw [← hR, ← hV] at HI HP
  have HR := Lib.hid hR
  have HV := Lib.hid hV
  clear hR hV
  have NS2 := ns_push NS1 (Obj.cells #[.int .i64 t.1, .int .i64 t.2] 25)
  have hb2 := bpush hb1 (Obj.cells #[.int .i64 t.1, .int .i64 t.2] 25)
  have BT2 := Blk.new w1 #[.int .i64 t.1, .int .i64 t.2] 25
  clear NS1 hb1
  go_wp2_with fail
  obtain ⟨w2, hw2⟩ : ∃ x, x = w1.alloc (Obj.cells #[.int .i64 t.1, .int .i64 t.2] 25) := ⟨_, rfl⟩
  rw [← hw2] at BT2 NS2 hb2 ⊢
  clear hw2
  refine (HI.out w2 NS2.nr).mono ?_
  rintro e1 w3 ⟨aO, cO, rfl, hn3, SO3⟩
  have BT3 := BT2.below hn3
  have NS3 := ns_step NS2 hn3
  have hb3 := bstep hb2 hn3
  have cT0 := BT3.cell 0 rfl
  have cT1 := BT3.cell 1 rfl
  have qT := BT3.lt
  clear BT2 NS2 hb2 hn3
  go_wp2_with fail
  refine (HP.out w3 NS3).mono ?_
  rintro e1 w4 ⟨aQ, cQ, rfl, hn4, SQ4⟩
  have BT4 := BT3.below hn4
  have NS4 := ns_step NS3 hn4
  have SO4 := nr_step SO3 hn4
  have hb4 := bstep hb3 hn4
  have hRn := SQ4.len
  clear BT3 NS3 SO3 hb3 hn4 cT0 cT1 qT
  go_wp2_with fail
  refine (sameRegs_c aO aQ R.length cO cQ R w4 SO4 SQ4).mono ?_
  rintro e1 w5 ⟨rfl, hn5⟩
  have BT5 := BT4.below hn5
  have NS5 := ns_step NS4 hn5
  have SO5 := nr_step SO4 hn5
  have SQ5 := nr_step SQ4 hn5
  have hb5 := bstep hb4 hn5
  clear BT4 NS4 SO4 SQ4 hb4 hn5
  by_cases h0 : R.length = 0
  · have h0i : (R.length : Int) = 0 := by omega
    clear h0
    go_wp2_with fail
    refine (sameRegs_c aO aQ R.length cO cQ R w5 SO5 SQ5).mono ?_
    rintro e1 w6 ⟨rfl, hn6⟩
    have BT6 := BT5.below hn6
    have NS6 := ns_step NS5 hn6
    have SO6 := nr_step SO5 hn6
    have SQ6 := nr_step SQ5 hn6
    have hb6 := bstep hb5 hn6
    clear BT5 NS5 SO5 SQ5 hb5 hn6
    go_wp2_with fail
    go_ret
    exact ⟨rfl, hb6⟩
  · have hok := sok_of (show (sRes ss A t).length ≠ 0 by rw [← HR.out]; exact h0)
    obtain ⟨hT0, ht, hl1, _⟩ := turn_0 hok
    have HT0 := Lib.hid hT0
    have HTK := Lib.hid ht
    have h0i : ((R.length : Int) == 0) = false := by rw [beq_eq_false_iff_ne]; omega
    clear h0
    have HBT := Lib.hid BT5
    have NR5 := NS5.nr
    clear hok hT0 ht SQ5 SO5 NS5 BT5
    go_wp2_with fail
    go_loopw [10, 11, 12] (fun m x i wr => ∃ (k mm : Nat) (X : SV) (aX : Option Addr) (cX : Nat), k ≤ 2 * ss.length ∧ i = .int .i64 k ∧ m = .int .i64 mm ∧ x = .slice aX ss.length cX ∧ mm ≤ 1 ∧ Turn ss.length t mm X ∧ Below w5.heap.size w5 wr ∧ Nr wr wr.heap.size aX ss.length X) (fun _ _ i _ => 2 * ss.length - (intOf i).toNat)
    case atStart => exact ⟨0, 0, ss, sa, c, by omega, rfl, rfl, rfl, by omega, HT0.out, Below.refl _ _, NR5⟩
    case round =>
      obtain ⟨k, mm, X, aX, cX, hk, rfl, rfl, rfl, hmm, hT, hbk, NX⟩ := hrel
      have HT := Lib.hid hT
      clear NR5 hT
      by_cases hlt : k < 2 * ss.length
      · have hki : (k : Int) < 2 * (ss.length : Int) := by omega
        have hj : k % ss.length < ss.length := Nat.mod_lt _ (by omega)
        have hmod : Int.tmod (k : Int) (ss.length : Int) = ((k % ss.length : Nat) : Int) := by
          rw [Int.tmod_eq_emod_of_nonneg (by omega)]; rfl
        have hne : ¬ ss = [] := by rintro rfl; simp at hl1
        have BTr := HBT.out.below hbk
        have cT0 := BTr.cell 0 rfl
        have cT1 := BTr.cell 1 rfl
        obtain ⟨j, hje⟩ : ∃ j, k % ss.length = j := ⟨_, rfl⟩
        rw [hje] at hmod hj
        have HE := Lib.hid (stry_u j t aX ss.length cX X wr.drew NX)
        obtain ⟨hT2, hXl⟩ := turn_step HT.out HTK.out hj
        obtain ⟨Y, hY⟩ : ∃ x, sRes X j t = x := ⟨_, rfl⟩
        obtain ⟨U, hU⟩ : ∃ x, sV X j t = x := ⟨_, rfl⟩
        rw [hY, hU] at HE
        rw [hY] at hXl
        rw [hY, hU] at hT2
        rw [hXl] at HE
        have HT2 := Lib.hid hT2
        clear hje hY hU hT2 hXl
        go_wp2_with fail
        go_region_law (first | (go_simp; go_at_call 14; with_reducible refine HE.out.mono ?_; rintro e w6 ⟨aY, cY, rfl, hb6, NY6⟩))
        all_goals
          have hb7 := bstep (bdrew hbk) hb6
          clear NX BTr cT0 cT1 hbk hb6
          cases U
          · have hT3 := HT2.out
            rw [if_neg (by simp)] at hT3
            go_wp2_with fail
            go_roundw
            case rel => exact ⟨k + 1, mm, Y, aY, cY, by omega, by go_num, rfl, rfl, hmm, hT3, hb7, NY6⟩
            case measure => simp [intOf]; omega
          · have hT3 := HT2.out
            rw [if_pos rfl] at hT3
            have hm1 := hT3.2.2.1
            go_wp2_with fail
            go_roundw
            case rel => exact ⟨k + 1, mm + 1, Y, aY, cY, by omega, by go_num, by go_num, rfl, hm1, hT3, hb7, NY6⟩
            case measure => simp [intOf]; omega
      · obtain rfl : k = 2 * ss.length := by omega
        have hbr := bstep hb5 hbk
        have hm1 : (mm : Int) ≤ 1 := by omega
        go_wp2_with fail
        go_ret
        exact ⟨rfl, hbr⟩

theorem own : ownKnob Try.prog.godebug = none := by kernel_rfl
theorem laidOut : laidOutB Try.prog = true := by kernel_rfl

set_option maxRecDepth 100000 in
theorem lifted (os : Os) (started : os.Started) (H : Type) (enc : TypeId × Value → H) :
    ReturnsInHanded {} Try.checked os 4 .any (Rows.fnServersReplaySpec.pre6 enc Try.prog Try.f4 Rows.fnServersReplayRow.domain false) (Rows.fnServersReplaySpec.post enc Try.prog Try.f4 false true false false) := by
  refine returnsInHanded_of_change (C := Try.checked) own started (by kernel_rfl) Try.func4
    (ChangeSpec.witness6 (enc := enc) (C := Try.checked) false ⟨#[], #[.slice none 0 0], []⟩ 8 (by kernel_rfl) (by kernel_rfl) (by kernel_rfl) (by kernel_rfl)) ?_
  intro W base args ds gs before hval0 hW hcnd _
  have hval : ∀ (j : Nat) t v, Try.f4.params[j]? = some t → args[j]? = some v → Value.okWide Try.prog W .any base t v := hval0
  have hW' := hW
  obtain ⟨p, q, hA0, hV, rfl, hfz, hnd⟩ := hW
  have hA : DataW.TrodAll enc Try.prog W 0 (fun _ => true) true Try.f4.params.toList args.toList ds p := hA0
  rw [Try.params4] at hA hval
  obtain ⟨v0, vs0, d0, ds0, p0, q0, hargs, rfl, rfl, h0, r0⟩ := trodAll_cons hA
  obtain ⟨rfl, rfl, rfl⟩ := trodAll_nil r0
  obtain rfl : args = #[v0] := by cases args; simp_all
  obtain ⟨rfl, rfl⟩ := trodVars_none hV
  have k0 := h0
  have lt0 : ∀ x ∈ p0, x.block < W.heap.size := by obtain ⟨m, hm⟩ := k0; exact DataW.trod_lt m _ _ _ hm
  obtain ⟨a0, len0, cap0, rfl⟩ := okWide_slice Try.underlying22 (hval 0 22 v0 rfl rfl)
  obtain ⟨z0, w0⟩ : ∃ zs, IsRow .u8 W a0 len0 cap0 zs := by
    obtain ⟨fuel, hf⟩ := h0
    rcases open_ints Try.underlying22 Try.underlying5 (by kernel_rfl) hf with ⟨hcs, _⟩ | ⟨x, l, c, zs, hcs, _, hl, hm, hz, _, hcell, hwz⟩
    · simp [Value.cells] at hcs
      obtain ⟨rfl, rfl, rfl⟩ := hcs
      exact ⟨[], .inl ⟨rfl, rfl, rfl, rfl⟩⟩
    · simp [Value.cells] at hcs
      obtain ⟨rfl, rfl, rfl⟩ := hcs
      exact ⟨zs, .inr ⟨_, rfl, hl, hm, by simpa using hz, hcell, hwz⟩⟩
  clear hA0 hval0
  refine (walk a0 len0 cap0 z0 W w0).mono fun e W' ⟨he, bel⟩ => ?_
  subst he
  exact ⟨_, rfl, _, _, _, [], _, [], hW', trodAll_mk1 (shut_bool Try.underlying4 _), (trodAll_cons_mk (Below.trod laidOut (by kernel_rfl) (of_decide_eq_true (by kernel_rfl)) k0 bel lt0) trodAll_mk0), rfl, bel.frame _, fun h => by cases h⟩

theorem over : Rows.fnServersReplayRow.holds Try.pinned (OpenSpec.ofChange Rows.fnServersReplaySpec) :=
  OpenClaim.holds_of_wide 4 Try.f4 rfl rfl rfl rfl rfl rfl rfl ⟨rfl, rfl, rfl, rfl, rfl⟩ rfl rfl rfl rfl rfl (by kernel_rfl) Try.func4 (by kernel_rfl)
    (of_decide_eq_true (by kernel_rfl)) (by unfold Func.isWrapper; first | (rw [if_pos (by decide +kernel)]; kernel_rfl) | (rw [if_neg (by decide +kernel)]; exact ⟨rfl, rfl⟩))
    (fun os started H enc _ => lifted os started H enc)

/-- The given statement. -/
theorem proved : Rows.FnServersReplaySaid := over
end Go.Proofs.Ytpphabiloplnoaa.fnServersReplay
