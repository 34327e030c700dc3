/- The program's Guards returns what the reference's returns, for all arguments.
   No condition: it holds for every input. -/
import Derived.Test.YtdnkopnhpffcdaaRows
import Derived.WalkKit
import Derived.ProofKit
import Derived.OpenShut
import Derived.ShutString
import Derived.ChangeOld
import Derived.Below
import Derived.Lib.SmallJoins
import Derived.Test.YtdnkopnhpffcdaaVt
import Derived.Test.YtdnkopnhpffcdaaVu
namespace Go.Proofs.Ytdnkopnhpffcdaa.fnExactGuards
open Go.ChangeShapes Go.WideShapes Go.ChangeAt Go.RowKit Go.Joins
open Go.ChangeMaps (open_string shut_string)
set_option linter.unusedVariables false

set_option maxHeartbeats 4000000 in
theorem walk (a0 : Option Addr) (n0 q0 : Nat) (bs : BX) (a1 : Option Addr) (n1 q1 : Nat) (L : List Int) (x : Int) (w : World) (s0 : Ns 1 inG w w.heap.size a0 n0 bs) (o1 : L.length = n1) (s1 : Sl 1 w w.heap.size a1 n1 (inG L)) (wx : (Lit.int .i64 x).wf = true) :
    Calls Try.prog 13 #[.slice a0 n0 q0, .slice a1 n1 q1, .int .i64 x] w fun e w' => e = .returned (.bool true) ∧ Below w.heap.size w w' := by
  have hn1 := s1.len
  have hnl := s0.length
  by_cases hb : (1048576 : Int) < (n1 : Int)
  · clear s0 s1
    go_enter Try.func13, Try.ntmps13
    go_wp2_with fail
    go_ret
    exact ⟨rfl, Below.refl _ _⟩
  have hn1m : n1 ≤ 1048576 := by omega
  have HA := Lib.hid (fun w' (D : Below w.heap.size w w') => (s0.below D).mono D.size)
  have HK := Lib.hid (fun w' (D : Below w.heap.size w w') => (s1.below D).mono D.size)
  have HZ := Lib.hid (szBS_c 1048576 a0 n0 q0 bs w (by omega) (by omega) s0)
  clear s0 s1
  go_enter Try.func13, Try.ntmps13
  go_wp2_with fail
  refine (HZ.out).mono ?_
  rintro e w1 ⟨r, rfl, hr, hb1⟩
  have D1 := hb1
  clear HZ
  rcases hr with rfl | ⟨hr1, hr2⟩
  · go_wp2_with fail
    go_ret
    exact ⟨rfl, D1⟩
  have htot : tot bs ≤ 1048576 := by omega
  have hr3 : ¬ r < 0 := by omega
  have hlb : bs.length ≤ 1048576 := by have : bs.length ≤ tot bs := (by unfold tot; omega); omega
  have HLB : RowKit.Hid (∀ t : Int × List Int × Option Addr × Nat, ∀ bl : BL, boxesOf bl = bs → t ∈ bl → t.2.1.length ≤ 1048576) := Lib.hid (fun t bl h m => by
    have m2 : (t.1, t.2.1) ∈ bs := by rw [← h]; exact List.mem_map.2 ⟨t, m, rfl⟩
    have m3 : t.2.1.length ∈ bs.map fun b => b.2.length := List.mem_map.2 ⟨_, m2, rfl⟩
    have := le_sum m3
    unfold tot at htot
    omega)
  have hG := guardL_len bs L x
  clear hr1 hr2
  go_wp2_with fail
  refine (toBS_c _ _ _ bs _ htot (HA.out w1 D1)).mono ?_
  rintro e w2 ⟨a2, bl2, rfl, hb2, E2, B2⟩
  have D2 := bstep D1 hb2
  have h2 : bl2.length = n0 := by rw [← bx_len bl2, E2, hnl]
  have N2 := Lib.hid (B2.ns (by omega) (fun t m => HLB.out t _ E2 m))
  rw [h2, E2] at N2
  clear B2
  go_wp2_with fail
  refine (toI_c _ _ _ L _ o1 hn1m (HK.out w2 D2)).mono ?_
  rintro e w3 ⟨a3, rfl, hb3, O3⟩
  have D3 := bstep D2 hb3
  have N3 := Lib.hid ((N2.out.below hb3).mono hb3.size)
  have S3 := Lib.hid (O3.sl (by omega))
  rw [o1] at S3
  clear N2 O3
  obtain ⟨G, hGG⟩ : ∃ G, guardL bs L x = G := ⟨_, rfl⟩
  have HS := Lib.hid (grd_spec a2 a3 n0 n0 n1 n1 bs L x w3 N3.out o1 S3.out)
  have HI := Lib.hid (fun (a a' : Option Addr) (w' : World) (N : Ns 1 inG w' w'.heap.size a n0 bs) (S : Sl 1 w' w'.heap.size a' n1 (inG L)) => grd_impl a a' n0 n0 n1 n1 bs L x w' N o1 S)
  rw [hGG] at HS HI hG
  clear hGG
  go_wp2_with fail
  refine (HS.out).mono ?_
  rintro e w4 ⟨aW, cW, rfl, hb4, own4⟩
  have D4 := bstep D3 hb4
  have SW4 := Lib.hid (goti_sl own4 (by omega))
  have E4 := Below.refl w4.heap.size w4
  clear own4 HS N3 S3
  go_wp2_with fail
  refine (toBS_c _ _ _ bs _ htot (HA.out w4 D4)).mono ?_
  rintro e w5 ⟨aX, blX, rfl, hb5, EX, B5⟩
  have D5 := bstep D4 hb5
  have E5 := bstep E4 hb5
  have hX : blX.length = n0 := by rw [← bx_len blX, EX, hnl]
  have HBX := Lib.hid B5
  have F5 := Below.refl w5.heap.size w5
  clear B5
  have HNX : RowKit.Hid (∀ w', Below w5.heap.size w5 w' → Ns 1 inG w' w'.heap.size aX n0 bs) := Lib.hid (fun w' F => by
    have := (HBX.out.below F).ns (by omega) (fun t m => HLB.out t _ EX m)
    rwa [hX, EX] at this)
  have HEX := Lib.hid EX
  clear EX
  go_wp2_with fail
  refine (toI_c _ _ _ L _ o1 hn1m (HK.out w5 D5)).mono ?_
  rintro e w6 ⟨aY, rfl, hb6, O6⟩
  have D6 := bstep D5 hb6
  have E6 := bstep E5 hb6
  have F6 := bstep F5 hb6
  have HOY := Lib.hid O6
  have G6 := Below.refl w6.heap.size w6
  have HSY : RowKit.Hid (∀ w', Below w6.heap.size w6 w' → Sl 1 w' w'.heap.size aY n1 (inG L)) := Lib.hid (fun w' F => by
    have := (HOY.out.below F).sl (by omega)
    rwa [o1] at this)
  clear O6
  go_wp2_with fail
  refine (HI.out aX aY w6 (HNX.out w6 F6) (HSY.out w6 G6)).mono ?_
  rintro e w7 ⟨aG, cG, rfl, hb7, own7⟩
  have D7 := bstep D6 hb7
  have E7 := bstep E6 hb7
  have F7 := bstep F6 hb7
  have G7 := bstep G6 hb7
  have HOG := Lib.hid own7
  have SG7 := Lib.hid (goti_sl own7 (by omega))
  have SW7 := Lib.hid ((SW4.out.below E7).mono E7.size)
  have J7 := Below.refl w7.heap.size w7
  clear own7
  go_wp2_with fail
  refine (eqI_c _ _ _ _ _ G w7 SG7.out SW7.out).mono ?_
  rintro e w8 ⟨rfl, hb8⟩
  have D8 := bstep D7 hb8
  have E8 := bstep E7 hb8
  have F8 := bstep F7 hb8
  have G8 := bstep G7 hb8
  have J8 := bstep J7 hb8
  clear SG7 SW7
  go_wp2_with fail
  refine (toBS_c _ _ _ bs _ htot (HA.out w8 D8)).mono ?_
  rintro e w9 ⟨aR, blR, rfl, hb9, ER, BR⟩
  have D9 := bstep D8 hb9
  have E9 := bstep E8 hb9
  have F9 := bstep F8 hb9
  have G9 := bstep G8 hb9
  have J9 := bstep J8 hb9
  have hR : blR.length = n0 := by rw [← bx_len blR, ER, hnl]
  have NR := Lib.hid (BR.ns (by omega) (fun t m => HLB.out t _ ER m))
  rw [hR, ER] at NR
  clear BR ER
  go_wp2_with fail
  refine (eqBS_c _ _ _ _ _ bs w9 (HNX.out w9 F9) NR.out).mono ?_
  rintro e w10 ⟨rfl, hb10⟩
  have D10 := bstep D9 hb10
  have E10 := bstep E9 hb10
  have F10 := bstep F9 hb10
  have G10 := bstep G9 hb10
  have J10 := bstep J9 hb10
  go_wp2_with fail
  refine (toI_c _ _ _ L _ o1 hn1m (HK.out w10 D10)).mono ?_
  rintro e w11 ⟨aS, rfl, hb11, OS⟩
  have D11 := bstep D10 hb11
  have E11 := bstep E10 hb11
  have F11 := bstep F10 hb11
  have G11 := bstep G10 hb11
  have J11 := bstep J10 hb11
  have SS := Lib.hid (OS.sl (by omega))
  rw [o1] at SS
  clear OS NR
  go_wp2_with fail
  refine (eqI_c _ _ _ _ _ L w11 (HSY.out w11 G11) SS.out).mono ?_
  rintro e w12 ⟨rfl, hb12⟩
  have D12 := bstep D11 hb12
  have E12 := bstep E11 hb12
  have F12 := bstep F11 hb12
  have G12 := bstep G11 hb12
  have J12 := bstep J11 hb12
  clear SS
  have z4 := E12.size
  have z5 := F12.size
  have z6 := G12.size
  have z7 := J12.size
  have z45 := hb5.size
  have z56 := hb6.size
  have z67 := hb7.size
  have hM := Lib.hid (markBS_c 1 (by omega) (by omega) aX n0 n0 w4.heap.size w5.heap.size blX w12 hX (by rw [HEX.out]; exact htot) (HBX.out.below F12))
  rw [HEX.out] at hM
  go_wp2_with fail
  refine hM.out.mono ?_
  rintro e w13 ⟨rfl, hc13⟩
  have b13 := hc13.below (B := w4.heap.size) (Nat.le_refl _) z4
  have E13 := E12.trans b13
  have O13 := (HOY.out.below G12).chg hc13 (Nat.le_refl _)
  have R13 := row_chg (row_below HOG.out J12) hc13 (by omega)
  clear hM
  have hz13 := hc13.size
  have ht0 : (0 : Int) ≤ 1 + (tot bs : Int) := by omega
  have ht1 : 1 + (tot bs : Int) ≤ 1048577 := by omega
  go_wp2_with fail
  refine (markT_c (1 + (tot bs : Int)) (by omega) (by omega) aY n1 n1 w5.heap.size w6.heap.size _ L w13 o1 hn1m O13).mono ?_
  rintro e w14 ⟨rfl, hc14⟩
  have b14 := hc14.below (B := w4.heap.size) (by omega) (by omega)
  have E14 := E13.trans b14
  have R14 := row_chg R13 hc14 (Nat.le_refl _)
  have hz14 := hc14.size
  have SG := Lib.hid (goti_sl R14 (by omega))
  have SW := Lib.hid ((SW4.out.below E14).mono E14.size)
  have ht2 : ¬ 1 + (tot bs : Int) + (n1 : Int) < 0 := by omega
  go_wp2_with fail
  refine (eqI_c _ _ _ _ _ G w14 SG.out SW.out).mono ?_
  rintro e w15 ⟨rfl, hb15⟩
  have E15 := bstep E14 hb15
  have R15 := row_below R14 hb15
  have hz15 := hb15.size
  clear SG SW
  go_wp2_with fail
  refine (markR_c 1 (by omega) (by omega) aG G.length cG _ G w15 (by omega) R15).mono ?_
  rintro e w16 ⟨rfl, hc16, O16⟩
  have b16 := hc16.below (B := w4.heap.size) (by omega) (by omega)
  have E16 := E15.trans b16
  have S16 := Lib.hid O16.sl
  have D16 : Below w.heap.size w w16 := D4.trans (E16.mono D4.size)
  go_wp2_with fail
  refine (heldI_c 1 (by omega) (by omega) aG G.length cG w16 (by omega) S16.out).mono ?_
  rintro e wz ⟨rfl, rfl⟩
  have hq : ¬ 1 + (G.length : Int) < 0 := by omega
  have K16 := Below.refl w16.heap.size w16
  go_wp2_with fail
  refine (toBS_c _ _ _ bs _ htot (HA.out w16 D16)).mono ?_
  rintro e w17 ⟨aU, blU, rfl, hb17, EU, BU⟩
  have D17 := bstep D16 hb17
  have E17 := bstep E16 hb17
  have K17 := bstep K16 hb17
  have hU : blU.length = n0 := by rw [← bx_len blU, EU, hnl]
  have NU := Lib.hid (BU.ns (by omega) (fun t m => HLB.out t _ EU m))
  rw [hU, EU] at NU
  clear BU EU
  go_wp2_with fail
  refine (toI_c _ _ _ L _ o1 hn1m (HK.out w17 D17)).mono ?_
  rintro e w18 ⟨aV, rfl, hb18, OV⟩
  have D18 := bstep D17 hb18
  have E18 := bstep E17 hb18
  have K18 := bstep K17 hb18
  have SV := Lib.hid (OV.sl (by omega))
  rw [o1] at SV
  have NU2 := Lib.hid ((NU.out.below hb18).mono hb18.size)
  clear OV
  go_wp2_with fail
  refine (HI.out aU aV w18 NU2.out SV.out).mono ?_
  rintro e w19 ⟨aH, cH, rfl, hb19, ownH⟩
  have D19 := bstep D18 hb19
  have E19 := bstep E18 hb19
  have K19 := bstep K18 hb19
  have SH := Lib.hid (goti_sl ownH (by omega))
  have SW := Lib.hid ((SW4.out.below E19).mono E19.size)
  clear ownH
  go_wp2_with fail
  refine (eqI_c _ _ _ _ _ G w19 SH.out SW.out).mono ?_
  rintro e w20 ⟨rfl, hb20⟩
  have D20 := bstep D19 hb20
  have K20 := bstep K19 hb20
  have SG := Lib.hid (sl_step S16.out K20)
  go_wp2_with fail
  refine (heldI_c 1 (by omega) (by omega) aG G.length cG w20 (by omega) SG.out).mono ?_
  rintro e wz ⟨rfl, rfl⟩
  go_wp2_with fail
  go_ret
  exact ⟨rfl, D20⟩

theorem own : ownKnob Try.prog.godebug = none := by kernel_rfl
theorem laidOut : laidOutB Try.prog = true := by kernel_rfl

set_option maxRecDepth 100000 in
theorem lifted (os : Os) (started : os.Started) (H : Type) (enc : TypeId × Value → H) :
    ReturnsInHanded {} Try.checked os 13 .any (Rows.fnExactGuardsSpec.pre6 enc Try.prog Try.f13 Rows.fnExactGuardsRow.domain false) (Rows.fnExactGuardsSpec.post enc Try.prog Try.f13 false true false false) := by
  refine returnsInHanded_of_change (C := Try.checked) own started (by kernel_rfl) Try.func13
    (ChangeSpec.witness6 (enc := enc) (C := Try.checked) false ⟨#[], #[.slice none 0 0, .slice none 0 0, .int .i64 0], []⟩ 8 (by kernel_rfl) (by kernel_rfl) (by kernel_rfl) (by kernel_rfl)) ?_
  intro W base args ds gs before hval0 hW hcnd _
  have hval : ∀ (j : Nat) t v, Try.f13.params[j]? = some t → args[j]? = some v → Value.okWide Try.prog W .any base t v := hval0
  have hW' := hW
  obtain ⟨p, q, hA0, hV, rfl, hfz, hnd⟩ := hW
  have hA : DataW.TrodAll enc Try.prog W 0 (fun _ => true) true Try.f13.params.toList args.toList ds p := hA0
  rw [Try.params13] at hA hval
  obtain ⟨v0, vs0, d0, ds0, p0, q0, hargs, rfl, rfl, h0, r0⟩ := trodAll_cons hA
  obtain ⟨v1, vs1, d1, ds1, p1, q1, rfl, rfl, rfl, h1, r1⟩ := trodAll_cons r0
  obtain ⟨v2, vs2, d2, ds2, p2, q2, rfl, rfl, rfl, h2, r2⟩ := trodAll_cons r1
  obtain ⟨rfl, rfl, rfl⟩ := trodAll_nil r2
  obtain rfl : args = #[v0, v1, v2] := by cases args; simp_all
  obtain ⟨rfl, rfl⟩ := trodVars_none hV
  have k0 := h0
  have lt0 : ∀ x ∈ p0, x.block < W.heap.size := by obtain ⟨m, hm⟩ := k0; exact DataW.trod_lt m _ _ _ hm
  have k1 := h1
  have lt1 : ∀ x ∈ p1, x.block < W.heap.size := by obtain ⟨m, hm⟩ := k1; exact DataW.trod_lt m _ _ _ hm
  have k2 := h2
  have lt2 : ∀ x ∈ p2, x.block < W.heap.size := by obtain ⟨m, hm⟩ := k2; exact DataW.trod_lt m _ _ _ hm
  obtain ⟨xa0, xl0, xc0, rfl⟩ := okWide_slice Try.underlying35 (hval 0 35 v0 rfl rfl)
  obtain ⟨fu0, hf0⟩ := h0
  obtain ⟨a0, n0, q0, l0, e0b, s0⟩ := open_bxs Try.underlying35 Try.underlying62 (by kernel_rfl) (by kernel_rfl) rfl rfl Try.underlying3 Try.underlying24 (by kernel_rfl) hf0
  simp only [Value.slice.injEq] at e0b
  obtain ⟨e0c, e0d, e0e⟩ := e0b
  subst e0c e0d e0e
  obtain ⟨xa1, xl1, xc1, rfl⟩ := okWide_slice Try.underlying24 (hval 1 24 v1 rfl rfl)
  obtain ⟨fu1, hf1⟩ := h1
  obtain ⟨a1, n1, q1, l1, e1b, c1, o1, s1⟩ := open_is Try.underlying24 Try.underlying3 (by kernel_rfl) hf1
  simp only [Value.slice.injEq] at e1b
  obtain ⟨e1c, e1d, e1e⟩ := e1b
  subst e1c e1d e1e
  obtain ⟨a2, rfl, rfl, rfl, w2⟩ := open_int Try.underlying3 (hval 2 3 v2 rfl rfl) h2
  clear hA0 hval0
  refine (walk xa0 xl0 xc0 l0 xa1 xl1 xc1 l1 a2 W s0 o1 s1 w2).mono fun e W' ⟨he, bel⟩ => ?_
  subst he
  exact ⟨_, rfl, _, _, _, [], _, [], hW', trodAll_mk1 (shut_bool Try.underlying4 _), (trodAll_cons_mk (Below.trod laidOut (by kernel_rfl) (of_decide_eq_true (by kernel_rfl)) k0 bel lt0) (trodAll_cons_mk (Below.trod laidOut (by kernel_rfl) (of_decide_eq_true (by kernel_rfl)) k1 bel lt1) (trodAll_cons_mk (Below.trod laidOut (by kernel_rfl) (of_decide_eq_true (by kernel_rfl)) k2 bel lt2) trodAll_mk0))), rfl, bel.frame _, fun h => by cases h⟩

theorem over : Rows.fnExactGuardsRow.holds Try.pinned (OpenSpec.ofChange Rows.fnExactGuardsSpec) :=
  OpenClaim.holds_of_wide 13 Try.f13 rfl rfl rfl rfl rfl rfl rfl ⟨rfl, rfl, rfl, rfl, rfl⟩ rfl rfl rfl rfl rfl (by kernel_rfl) Try.func13 (by kernel_rfl)
    (of_decide_eq_true (by kernel_rfl)) (by unfold Func.isWrapper; first | (rw [if_pos (by decide +kernel)]; kernel_rfl) | (rw [if_neg (by decide +kernel)]; exact ⟨rfl, rfl⟩))
    (fun os started H enc _ => lifted os started H enc)

/-- The given statement. -/
theorem proved : Rows.FnExactGuardsSaid := over
end Go.Proofs.Ytdnkopnhpffcdaa.fnExactGuards
