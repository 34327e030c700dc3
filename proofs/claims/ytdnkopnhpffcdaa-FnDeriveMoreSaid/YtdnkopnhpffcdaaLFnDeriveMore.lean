/- More knowledge derives no less.
   No condition: it holds for every input. -/
import Derived.Test.YtdnkopnhpffcdaaRows
import Derived.WalkKit
import Derived.ProofKit
import Derived.OpenShut
import Derived.ShutString
import Derived.ChangeOld
import Derived.Below
import Derived.Lib.SmallJoins
import Derived.Test.YtdnkopnhpffcdaaVn
namespace Go.Proofs.Ytdnkopnhpffcdaa.fnDeriveMore
open Go.ChangeShapes Go.WideShapes Go.ChangeAt Go.RowKit Go.Joins
open Go.ChangeMaps (open_string shut_string)
set_option linter.unusedVariables false

set_option maxHeartbeats 4000000 in
theorem walk (a0 : Option Addr) (len0 cap0 : Nat) (z0 : List Int) (a1 : Option Addr) (len1 cap1 : Nat) (z1 : List Int) (w : World) (w0 : IsRow .u8 w a0 len0 cap0 z0) (w1 : IsRow .u8 w a1 len1 cap1 z1) :
    Calls Try.prog 3 #[.slice a0 len0 cap0, .slice a1 len1 cap1] w fun e w' => e = .returned (.bool true) ∧ Below w.heap.size w w' := by
  have hm1 : (len1 : Int) ≤ 9223372036854775807 := by
    have w1' := w1
    unfold IsRow maxLen at w1'
    rcases w1' with ⟨_, h, _, _⟩ | ⟨_, _, h1, h2, _⟩ <;> omega
  have W1 := Lib.hid w1
  clear w1
  by_cases hb : (1048576 : Int) < (len0 : Int)
  · go_enter Try.func3, Try.ntmps3
    go_wp2
    go_ret
    exact ⟨rfl, Below.refl _ _⟩
  by_cases hb' : (1048576 : Int) < (len1 : Int)
  · go_enter Try.func3, Try.ntmps3
    go_wp2
    go_ret
    exact ⟨rfl, Below.refl _ _⟩
  have HD := Lib.hid (draw_der w a0 len0 cap0 z0 w0)
  clear w0
  go_enter Try.func3, Try.ntmps3
  go_wp2_with fail
  refine HD.out.mono ?_
  rintro e1 w1 ⟨bs, ab, c, L, ak, ck, rfl, hb1, hl⟩
  have HL := Lib.hid hl
  have hl10 := hl.1
  have hL4 := hl.2.1
  have D1 := Below.refl w1.heap.size w1
  clear HD hl
  have HI := Lib.hid (fun (w' : World) (D : Below w1.heap.size w1 w') => derL_c ab ak bs.length c L.length ck bs L w' (lies_ns HL.out D) rfl (lies_kn HL.out D))
  have HP := Lib.hid (fun (w' : World) (D : Below w1.heap.size w1 w') => derS_c ab ak bs.length c L.length ck bs L w' (lies_ns HL.out D) rfl (lies_kn HL.out D))
  have hdl := derL_len bs L
  obtain ⟨G, hG⟩ : ∃ G, derL bs L = G := ⟨_, rfl⟩
  rw [hG] at HI HP hdl
  have HG := Lib.hid hG
  clear hG
  go_wp2_with fail
  refine (HI.out w1 D1).mono ?_
  rintro e1 w2 ⟨aG, cG, rfl, hb2, own2⟩
  have D2 := bstep D1 hb2
  have SG2 := goti_sl own2 (by omega)
  go_wp2_with fail
  refine (HP.out w2 D2).mono ?_
  rintro e1 w3 ⟨aQ, cQ, rfl, hb3, own3⟩
  have D3 := bstep D2 hb3
  have SG3 := sl_step SG2 hb3
  have SQ3 := goti_sl own3 (by omega)
  clear own2 own3 SG2
  go_wp2_with fail
  refine (sameI_c _ _ _ _ _ G w3 SG3 SQ3).mono ?_
  rintro e1 w4 ⟨rfl, hb4⟩
  have D4 := bstep D3 hb4
  have SG4 := sl_step SG3 hb4
  have SQ4 := sl_step SQ3 hb4
  clear SG3 SQ3
  have HV := Lib.hid (bvalid_spec ab bs.length c bs w4 (lies_ns HL.out D4))
  obtain ⟨v, hv⟩ : ∃ v, boxesOk bs = v := ⟨_, rfl⟩
  rw [hv] at HV
  have HVV := Lib.hid hv
  clear hv
  go_wp2_with fail
  refine HV.out.mono ?_
  rintro e1 w5 ⟨rfl, rfl⟩
  cases v
  · skip
    go_wp2_with fail
    refine (sameI_c _ _ _ _ _ G w4 SG4 SQ4).mono ?_
    rintro e1 w5 ⟨rfl, hb5⟩
    have D5 := bstep D4 hb5
    go_wp2_with fail
    go_ret
    exact ⟨rfl, bstep hb1 D5⟩
  obtain ⟨m, hm, hm8⟩ : ∃ m : Int, Int.tmod (len1 : Int) 9 = m ∧ (0 ≤ m ∧ m < 9) := ⟨_, rfl, by rw [Int.tmod_eq_emod_of_nonneg (by omega)]; omega⟩
  have hL20' : ¬ (20 : Int) ≤ (L.length : Int) := by omega
  have E5 := own_emp (base := w4.heap.size) (Blk.new w4 #[] 3) (Nat.le_refl _)
  have B5 := bpush (Below.refl w4.heap.size w4) (Obj.cells #[] 3)
  have SK := lies_kn HL.out (bstep D4 B5)
  go_wp2_with (first
    | (at_builtin; refine wp_appi rfl _ _ rfl w4.heap.size _ 0 (ints []) ak L.length ck _ L rfl rfl E5 SK rfl (by omega) (by first | omega | (simp; omega) | simp) L.length (ints L) (by simp) (by simp [ints]) ?_; intro aA cA wA ownA hgA; have BA := grown_chg E5 hgA (by simp); have ownA2 := ownA.alloc (Obj.cells #[.int .i64 (1 + m)] 3); have NA := Blk.new wA #[.int .i64 (1 + m)] 3; have zA := BA.size; simp at zA)
    | (at_builtin; refine wp_appi rfl _ _ rfl w4.heap.size _ L.length (ints L) (some ⟨wA.heap.size, 0, none⟩) 1 1 _ [1 + m] rfl rfl ownA2 (is_one NA) rfl (by omega) (by first | omega | (simp; omega) | simp) (L.length + 1) (ints (L ++ [1 + m])) (by simp) (by simp [ints]) ?_; intro aB cB wB ownB hgB)
    | fail)
  have BB := (BA.mono (Nat.le_refl w4.heap.size)).trans (((bpush (Below.refl wA.heap.size wA) (Obj.cells #[.int .i64 (1 + m)] 3)).mono (by omega)).trans (grown_chg ownA2 hgB (by simp; omega)))
  have B4B : Below w4.heap.size w4 wB := B5.trans BB
  have DB := bstep D4 B4B
  have SB : Sl 1 wB wB.heap.size aB (L.length + 1) (inG (L ++ [1 + m])) := (ow_of_row ownB (by omega) (fun i hi j hj => ints_at _ i (by simpa using hi) j hj)).sl
  have SGB := sl_step SG4 B4B
  have HC := Lib.hid (derL_c ab aB bs.length c (L.length + 1) cB bs (L ++ [1 + m]) wB (lies_ns HL.out DB) (by simp) SB)
  have hal := derL_len bs (L ++ [1 + m])
  have HMO := Lib.hid (fun x (h : x ∈ derL bs L) => derL_more (bs := bs) (kn := L) (y := 1 + m) (x := x) (by omega) (by omega) h)
  rw [HG.out] at HMO
  obtain ⟨A, hA⟩ : ∃ A, derL bs (L ++ [1 + m]) = A := ⟨_, rfl⟩
  rw [hA] at HC hal HMO
  clear E5 SK BA ownA2 NA ownA hgA ownB hgB SB hA BB B4B SG4 SQ4 hb2 hb3 hb4 D1 D2 D3 D4 B5 HI HP
  refine HC.out.mono ?_
  rintro e1 w6 ⟨aH, cH, rfl, hb6, ownH⟩
  have D6 := bstep DB hb6
  have SG6 := sl_step SGB hb6
  have SH6 := goti_sl ownH (by omega)
  clear DB SGB ownH hb6
  go_wp2_with fail
  go_loopw [10] (fun i wr => ∃ k : Nat, k ≤ G.length ∧ i = .int .i64 k ∧ Below w1.heap.size w1 wr ∧ Sl 1 wr wr.heap.size aG G.length (inG G) ∧ Sl 1 wr wr.heap.size aH A.length (inG A)) (fun i _ => G.length - (intOf i).toNat)
  case atStart => exact ⟨0, by omega, rfl, D6, SG6, SH6⟩
  case round =>
    clear D6 SG6 SH6
    obtain ⟨k, hk, rfl, Dr, SG, SH⟩ := hrel
    by_cases hlt : k < G.length
    · have hki : (k : Int) < (G.length : Int) := by omega
      have HH := Lib.hid (hasI_c aH _ cH A (G.getD k 0) wr rfl SH)
      rw [decide_eq_true (HMO.out _ (getD_mem hlt))] at HH
      have HS := Lib.hid SG
      obtain ⟨b, off, rfl, hB, hc⟩ := is_at SG hlt
      have y := hc k hlt
      obtain ⟨p, hp⟩ : ∃ p, G.getD k 0 = p := ⟨_, rfl⟩
      rw [hp] at y HH
      clear hc hp SG
      go_wp2_with fail
      refine HH.out.mono ?_
      rintro e1 w7 ⟨rfl, rfl⟩
      go_wp2_with fail
      go_roundw
      case rel => exact ⟨k + 1, by omega, by go_num, Dr, HS.out, SH⟩
      case measure => simp [intOf]; omega
    · obtain rfl : k = G.length := by omega
      go_wp2_with fail
      go_ret
      exact ⟨rfl, bstep hb1 Dr⟩

theorem own : ownKnob Try.prog.godebug = none := by kernel_rfl
theorem laidOut : laidOutB Try.prog = true := by kernel_rfl

set_option maxRecDepth 100000 in
theorem lifted (os : Os) (started : os.Started) (H : Type) (enc : TypeId × Value → H) :
    ReturnsInHanded {} Try.checked os 3 .any (Rows.fnDeriveMoreSpec.pre6 enc Try.prog Try.f3 Rows.fnDeriveMoreRow.domain false) (Rows.fnDeriveMoreSpec.post enc Try.prog Try.f3 false true false false) := by
  refine returnsInHanded_of_change (C := Try.checked) own started (by kernel_rfl) Try.func3
    (ChangeSpec.witness6 (enc := enc) (C := Try.checked) false ⟨#[], #[.slice none 0 0, .slice none 0 0], []⟩ 8 (by kernel_rfl) (by kernel_rfl) (by kernel_rfl) (by kernel_rfl)) ?_
  intro W base args ds gs before hval0 hW hcnd _
  have hval : ∀ (j : Nat) t v, Try.f3.params[j]? = some t → args[j]? = some v → Value.okWide Try.prog W .any base t v := hval0
  have hW' := hW
  obtain ⟨p, q, hA0, hV, rfl, hfz, hnd⟩ := hW
  have hA : DataW.TrodAll enc Try.prog W 0 (fun _ => true) true Try.f3.params.toList args.toList ds p := hA0
  rw [Try.params3] at hA hval
  obtain ⟨v0, vs0, d0, ds0, p0, q0, hargs, rfl, rfl, h0, r0⟩ := trodAll_cons hA
  obtain ⟨v1, vs1, d1, ds1, p1, q1, rfl, rfl, rfl, h1, r1⟩ := trodAll_cons r0
  obtain ⟨rfl, rfl, rfl⟩ := trodAll_nil r1
  obtain rfl : args = #[v0, v1] := by cases args; simp_all
  obtain ⟨rfl, rfl⟩ := trodVars_none hV
  have k0 := h0
  have lt0 : ∀ x ∈ p0, x.block < W.heap.size := by obtain ⟨m, hm⟩ := k0; exact DataW.trod_lt m _ _ _ hm
  have k1 := h1
  have lt1 : ∀ x ∈ p1, x.block < W.heap.size := by obtain ⟨m, hm⟩ := k1; exact DataW.trod_lt m _ _ _ hm
  obtain ⟨a0, len0, cap0, rfl⟩ := okWide_slice Try.underlying22 (hval 0 22 v0 rfl rfl)
  obtain ⟨z0, w0⟩ : ∃ zs, IsRow .u8 W a0 len0 cap0 zs := by
    obtain ⟨fuel, hf⟩ := h0
    rcases open_ints Try.underlying22 Try.underlying5 (by kernel_rfl) hf with ⟨hcs, _⟩ | ⟨x, l, c, zs, hcs, _, hl, hm, hz, _, hcell, hwz⟩
    · simp [Value.cells] at hcs
      obtain ⟨rfl, rfl, rfl⟩ := hcs
      exact ⟨[], .inl ⟨rfl, rfl, rfl, rfl⟩⟩
    · simp [Value.cells] at hcs
      obtain ⟨rfl, rfl, rfl⟩ := hcs
      exact ⟨zs, .inr ⟨_, rfl, hl, hm, by simpa using hz, hcell, hwz⟩⟩
  obtain ⟨a1, len1, cap1, rfl⟩ := okWide_slice Try.underlying22 (hval 1 22 v1 rfl rfl)
  obtain ⟨z1, w1⟩ : ∃ zs, IsRow .u8 W a1 len1 cap1 zs := by
    obtain ⟨fuel, hf⟩ := h1
    rcases open_ints Try.underlying22 Try.underlying5 (by kernel_rfl) hf with ⟨hcs, _⟩ | ⟨x, l, c, zs, hcs, _, hl, hm, hz, _, hcell, hwz⟩
    · simp [Value.cells] at hcs
      obtain ⟨rfl, rfl, rfl⟩ := hcs
      exact ⟨[], .inl ⟨rfl, rfl, rfl, rfl⟩⟩
    · simp [Value.cells] at hcs
      obtain ⟨rfl, rfl, rfl⟩ := hcs
      exact ⟨zs, .inr ⟨_, rfl, hl, hm, by simpa using hz, hcell, hwz⟩⟩
  clear hA0 hval0
  refine (walk a0 len0 cap0 z0 a1 len1 cap1 z1 W w0 w1).mono fun e W' ⟨he, bel⟩ => ?_
  subst he
  exact ⟨_, rfl, _, _, _, [], _, [], hW', trodAll_mk1 (shut_bool Try.underlying4 _), (trodAll_cons_mk (Below.trod laidOut (by kernel_rfl) (of_decide_eq_true (by kernel_rfl)) k0 bel lt0) (trodAll_cons_mk (Below.trod laidOut (by kernel_rfl) (of_decide_eq_true (by kernel_rfl)) k1 bel lt1) trodAll_mk0)), rfl, bel.frame _, fun h => by cases h⟩

theorem over : Rows.fnDeriveMoreRow.holds Try.pinned (OpenSpec.ofChange Rows.fnDeriveMoreSpec) :=
  OpenClaim.holds_of_wide 3 Try.f3 rfl rfl rfl rfl rfl rfl rfl ⟨rfl, rfl, rfl, rfl, rfl⟩ rfl rfl rfl rfl rfl (by kernel_rfl) Try.func3 (by kernel_rfl)
    (of_decide_eq_true (by kernel_rfl)) (by unfold Func.isWrapper; first | (rw [if_pos (by decide +kernel)]; kernel_rfl) | (rw [if_neg (by decide +kernel)]; exact ⟨rfl, rfl⟩))
    (fun os started H enc _ => lifted os started H enc)

/-- The given statement. -/
theorem proved : Rows.FnDeriveMoreSaid := over
end Go.Proofs.Ytdnkopnhpffcdaa.fnDeriveMore
